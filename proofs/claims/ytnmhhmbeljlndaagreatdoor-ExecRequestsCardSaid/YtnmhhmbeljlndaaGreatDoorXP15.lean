/- Parts of the proof: Xhins, Xhkv2, Xhkv3, Xhkv4, Xhkv5, Xhkv6, Xhkv7, Xhkv8, Xhread1, Xhread2, Xhread3, Xhkvl. -/
import Derived.Test.YtnmhhmbeljlndaaGreatDoorXP14
import Derived.Shelf.Spec.SlicesInsert
import Derived.Shelf.Spec.SlicesInsertGrow
import Derived.Test.YtnmhhmbeljlndaaGreatDoorProg
import Derived.WalkKit
set_option linter.unusedVariables false
set_option linter.unusedSimpArgs false
set_option linter.unusedSectionVars false
section
namespace Go.Proofs
open Go.Shelf
def Tryz.laysNm222_ren:Go.Shelf.Ren:=⟨fun | 22=>153 | 29=>211 | 30=>212 | 36=>273 | 17=>313 | n=>n,fun | 24=>133 | 9=>9 | 3=>3 | 4=>4 | 0=>0 | n=>n,fun | n=>n⟩
theorem Tryz.laysNm222:Go.Proofs.Lays2.n22 Tryz.prog Tryz.laysNm222_ren:={
 mixed:=by kernel_rfl
 f17:=Tryz.func313.trans (congrArg some (by kernel_rfl))
 f22:=Tryz.func153.trans (congrArg some (by kernel_rfl))
 f29:=Tryz.func211.trans (congrArg some (by kernel_rfl))
 f30:=Tryz.func212.trans (congrArg some (by kernel_rfl))
 f36:=Tryz.func273.trans (congrArg some (by kernel_rfl))
 t0:=Tryz.underlying0
 a0:=Tryz.isAgg0
 z0:=Tryz.sizeOf0
 v0:=Tryz.zeroValue0
 t3:=Tryz.underlying3
 a3:=Tryz.isAgg3
 z3:=Tryz.sizeOf3
 v3:=Tryz.zeroValue3
 t4:=Tryz.underlying4
 a4:=Tryz.isAgg4
 z4:=Tryz.sizeOf4
 v4:=Tryz.zeroValue4
 t9:=Tryz.underlying9
 a9:=Tryz.isAgg9
 z9:=Tryz.sizeOf9
 v9:=Tryz.zeroValue9
 t24:=Tryz.underlying133
 a24:=Tryz.isAgg133
 z24:=Tryz.sizeOf133
 v24:=Tryz.zeroValue133
 i9:=by kernel_rfl }
end Go.Proofs
open Go Go.X Go.Proofs
set_option maxRecDepth 100000
set_option maxHeartbeats 4000000

namespace Go.X.TryzW
section
variable {E:Env} {ρ:Rho} {L:List Blk} {K:IV->List Blk->Prop}
def z6o (c:Array Value):Nat->List Value->Array Value
 | _,[]=>c
 | o,v::r=>z6o (c.setIfInBounds o v) (o+1) r
theorem Yd:∀(vs:List Value) (c:Array Value) (o:Nat),(z6o c o vs).size=c.size
 | [],_,_=>rfl
 | v::r,c,o=>by rw [z6o,Yd r];simp
theorem ve:∀(vs:List Value) (c:Array Value) (o k:Nat),o+vs.length<=c.size->(z6o c o vs)[k]?=if o<=k/\k<o+vs.length then vs[k - o]? else c[k]?
 | [],c,o,k,_=>by rw [z6o,if_neg];simp
 | v::r,c,o,k,h=>by
  simp only [llc] at h
  rw [z6o,ve r _ _ _ (by simp;omega)]
  by_cases h1:o+1<=k/\k<o+1+r.length
  ·rw [if_pos h1,if_pos (by simp;omega),show k - o=(k - (o+1))+1 by omega,List.getElem?_cons_succ]
  ·rw [if_neg h1]
   by_cases h2:k=o
   ·subst h2
    rw [if_pos (by simp),Nat.sub_self,List.getElem?_cons_zero,Array.getElem?_setIfInBounds_self_of_lt od]
   ·rw [if_neg (by simp;omega),Array.getElem?_setIfInBounds_ne (Ne.symm h2)]
theorem z2z {w:World} {b:Nat} {x y:Obj}:setW (setW w b x) b y=setW w b y:=by
 simp [setW,Array.setIfInBounds_setIfInBounds]
theorem yC {b:Nat} {e:TypeId} {d:Nat × Nat}:∀(vs:List Value) (o:Nat) (w:World) (c:Array Value),w.heap[b]?=some (.cells c e d)->w.setCells b o vs=setW w b (.cells (z6o c o vs) e d)
 | [],o,w,c,h=>by
  show w=setW w b (.cells c e d)
  have:w.heap.setIfInBounds b (.cells c e d)=w.heap:=by
   apply Array.ext_getElem?
   intro j
   rw [Array.getElem?_setIfInBounds]
   by_cases hj:b=j
   ·subst hj;rw [if_pos rfl,if_pos (Array.getElem?_eq_some_iff.1 h).1,h]
   ·rw [if_neg hj]
  unfold setW
  rw [this]
 | v::r,o,w,c,h=>by
  have h1:w.setCell ⟨b,o,none⟩ v=setW w b (.cells (c.setIfInBounds o v) e d):=by
   unfold World.setCell setW
   congr 1
   apply Array.ext_getElem?
   intro j
   rw [Array.getElem?_modify,Array.getElem?_setIfInBounds]
   by_cases hj:b=j
   ·subst hj
    rw [if_pos rfl,if_pos rfl,if_pos (Array.getElem?_eq_some_iff.1 h).1,h]
    rfl
   ·rw [if_neg hj,if_neg hj]
  show (w.setCell ⟨b,o,none⟩ v).setCells b (o+1) r=_
  rw [h1,yC r (o+1) _ (c.setIfInBounds o v) (zT (Array.getElem?_eq_some_iff.1 h).1),z2z]
  rfl
def vH (k:List UInt8):Value:=.string ⟨k.toArray⟩
def ins (ks:List (List UInt8)) (i:Nat) (x:List UInt8):List (List UInt8):=ks.take i++x::ks.drop i
theorem z1t {ks:List (List UInt8)} {i:Nat} {x:List UInt8} (hi:i<=ks.length) (j:Nat):(ins ks i x)[j]?=if j<i then ks[j]? else if j=i then some x else ks[j - 1]?:=by
 unfold ins
 have b:(ks.take i).length=i:=by simp;omega
 by_cases h1:j<i
 ·rw [if_pos h1,List.getElem?_append_left od,List.getElem?_take,if_pos h1]
 ·rw [if_neg h1,List.getElem?_append_right od,b]
  by_cases h2:j=i
  ·subst h2;simp
  ·rw [if_neg h2,show j - i=(j - i - 1)+1 by omega,List.getElem?_cons_succ,List.getElem?_drop]
   congr 1
   omega
theorem zed {ks:List (List UInt8)} {i:Nat} {x:List UInt8} (hi:i<=ks.length):(ins ks i x).length=ks.length+1:=by unfold ins;simp;omega
theorem JP {C:Ctx} {c:Array Value} {base:Nat} {ks:List (List UInt8)} (h1:base+ks.length<=c.size) (h2:∀(j:Nat) (k:List UInt8),ks[j]?=some k->c[base+j]?=some (vH k)):Flat C c base 1 (yA ks):=by
 refine ⟨by rw [YI];omega,fun i row hi=>?_⟩
 simp only [yA,List.getElem?_map,oms] at hi
 obtain ⟨k,d,rfl⟩:=hi
 refine ⟨rfl,fun j x b=>?_⟩
 cases j with
 | zero=>
  simp at b;subst b
  exact ⟨vH k,by rw [Nat.mul_one,Nat.add_zero];exact h2 i k d,.str k⟩
 | succ j=>simp at b
theorem Wh {w:World} {b o:Nat} {c:Array Value} {e:TypeId} {d:Nat × Nat} {v:Value} (h:w.heap[b]?=some (.cells c e d)) (j:c[o]?=some v):w.cell? ⟨b,o,none⟩=some v:=by
 simp only [World.cell?,h];exact j
theorem zga {b o j:Nat}:(⟨b,o,none⟩:Addr).add j=⟨b,o+j,none⟩:=by
 unfold Addr.add
 split
 ·rename_i h;subst h;rfl
 ·rfl
theorem zcO {a:Array Obj} {x y:Obj}:(a.push x).setIfInBounds a.size y=a.push y:=by
 apply Array.ext_getElem?
 intro j
 rw [Array.getElem?_setIfInBounds,Array.getElem?_push,Array.getElem?_push]
 by_cases hj:a.size=j
 ·subst hj;simp
 ·rw [if_neg hj]
  by_cases h2:j=a.size
  ·exact absurd h2.symm hj
  ·rw [if_neg h2,if_neg h2]
theorem z1j (k:List UInt8):(vH k).oneCell'=true:=rfl
theorem zar (hP:E.P=Tryz.prog) {ks:List (List UInt8)} {x:List UInt8} {i kb vb:Nat} (hk:L[kb]?=some (.cells 1 (yA ks))) (hv:L[vb]?=some (.cells 1 [[.str x]])) (hne:¬kb=vb) (hi:i<=ks.length) (h0:0<ks.length) (hN:ks.length<=1000000) :
  XT E 153 [.sl kb 0 ks.length ks.length,.int .i64 i,.sl vb 0 1 1] L fun r L'=>∃g,r=.sl g 0 (ks.length+1) (ks.length+1)/\L'[g]?=some (.cells 1 (yA (ins ks i x)))/\(g=kb\/g=L.length)/\Keep (fun t=>t=kb) L L':=by
 refine ⟨⟨Tryz.f153,by rw [hP];rfl,by decide,by rfl⟩,fun w φ X vs wf sim hG hl hvs=>?_⟩
 match vs,hl with
 | [a0,a1,a2],_=>
 have hv0:=hvs 0 _ rfl
 have hv1:=hvs 1 _ rfl
 have hv2:=hvs 2 _ rfl
 change VR _ _ a0 at hv0
 change VR _ _ a1 at hv1
 change VR _ _ a2 at hv2
 cases hv1
 cases hv0 with
 | sl _ _ _ _ b0 c0 hs0 hl0 hc0 ha0 hm0=>
 cases hv2 with
 | sl _ _ _ _ b2 c2 hs2 hl2 hc2 ha2 hm2=>
 obtain ⟨rfl,cA,eA,frA,hhA,hleA⟩:=ha0.resolve_left od
 obtain ⟨rfl,cB,eB,frB,hhB,hleB⟩:=ha2.resolve_left od
 obtain ⟨szA,cA',eA',frA',hA1,hA2,hA3,hA4⟩:=sim kb _ hk
 obtain ⟨szB,cB',eB',frB',hB1,hB2,hB3,hB4⟩:=sim vb _ hv
 simp only at hhA hhB hA1 hB1 szA szB hleA hleB hA3 hB3 hA4 hB4
 rw [hhA] at hA1
 rw [hhB] at hB1
 obtain ⟨rfl,rfl,rfl⟩:cA=cA'/\eA=eA'/\frA=frA':=by simpa using hA1
 obtain ⟨rfl,rfl,rfl⟩:cB=cB'/\eB=eB'/\frB=frB':=by simpa using hB1
 obtain rfl:frA=(0,0):=by
  rcases hA2 with h | ⟨h,_⟩
  ·exact h
  ·cases h
 obtain rfl:frB=(0,0):=by
  rcases hB2 with h | ⟨h,_⟩
  ·exact h
  ·cases h
 rw [szA] at hleA ⊢
 rw [szB] at hleB ⊢
 have hbne:(φ vb).blk≠(φ kb).blk:=fun h=>hne (wf.inj kb vb _ _ hk hv rfl rfl h.symm)
 have eoA:(φ kb).base+0*1=(φ kb).base:=by omega
 have eoB:(φ vb).base+0*1=(φ vb).base:=by omega
 rw [eoA,eoB]
 have hcs:∀(j:Nat) (k:List UInt8),ks[j]?=some k->cA[(φ kb).base+j]?=some (vH k):=fun j k hj=>by
  have hrow:(yA ks)[j]?=some [.str k]:=by simp [yA,hj]
  obtain ⟨v,h1,h2⟩:=(hA4 j _ hrow).2 0 _ rfl
  cases h2
  rw [Nat.mul_one,Nat.add_zero] at h1
  exact h1
 have hx:cB[(φ vb).base]?=some (vH x):=by
  obtain ⟨v,h1,h2⟩:=(hB4 0 _ rfl).2 0 _ rfl
  cases h2
  have e9:(φ vb).base+0*1+0=(φ vb).base:=by omega
  rw [e9] at h1
  exact h1
 have g1:∀j v,(ks.map vH)[j]?=some v->w.cell? ⟨(φ kb).blk,(φ kb).base+j,none⟩=some v:=fun j v hj=>by
  rw [List.getElem?_map,oms] at hj
  obtain ⟨k,hk',rfl⟩:=hj
  exact Wh hhA (hcs j k hk')
 have g2:∀j v,[vH x][j]?=some v->w.cell? ⟨(φ vb).blk,(φ vb).base+j,none⟩=some v:=fun j v hj=>by
  cases j with
  | zero=>simp at hj;subst hj;exact Wh hhB hx
  | succ j=>simp at hj
 have g3:∀v∈ks.map vH,v.oneCell'=true:=fun v hv'=>by
  obtain ⟨k,_,rfl⟩:=List.mem_map.1 hv'
  exact z1j k
 have g4:∀v∈[vH x],v.oneCell'=true:=fun v hv'=>by
  rw [List.mem_singleton] at hv';subst hv';exact z1j x
 have hszA:(φ kb).base+c0<=cA.size:=by omega
 have hfrz:∀o,w.frozen? ⟨(φ kb).blk,o,none⟩=false:=fun o=>by simp [World.frozen?,hhA]
 have hfrzB:∀o,w.frozen? ⟨(φ vb).blk,o,none⟩=false:=fun o=>by simp [World.frozen?,hhB]
 have hcell:∀o,o<cA.size->(w.cell? ⟨(φ kb).blk,o,none⟩).isSome=true:=fun o ho=>by
  simp only [World.cell?,hhA]
  rw [Array.getElem?_eq_getElem ho];rfl
 have hlins:=zed (x:=x) hi
 rw [hP]
 show Calls Tryz.prog 153 #[.slice (some ⟨(φ kb).blk,(φ kb).base,none⟩) ks.length c0,.int .i64 i,.slice (some ⟨(φ vb).blk,(φ vb).base,none⟩) 1 c2] w _
 let R:IV->List Blk->Prop:=fun r L'=>∃g,r=.sl g 0 (ks.length+1) (ks.length+1)/\L'[g]?=some (.cells 1 (yA (ins ks i x)))/\(g=kb\/g=L.length)/\Keep (fun t=>t=kb) L L'
 have hfin:∀(v:Value) (w':World),Post E ⟨w,φ,L,X⟩ R v w'->∃r L' φ' u,R r L'/\Ending.returned v=.returned u/\Wf E.g0 ⟨w',φ',L',X⟩/\Sim ⟨w',φ',L',X⟩/\Ext ⟨w,φ,L,X⟩ ⟨w',φ',L',X⟩/\VR ⟨w',φ',L',X⟩ r u:=fun v w' ⟨r,L',φ',h1,h2,h3,h4,h5⟩=>⟨r,L',φ',v,h1,rfl,h2,h3,h4,h5⟩
 have inplace:∀(C1:Ctx) (c':Array Value),Wf E.g0 C1->Sim C1->C1.L=L->C1.φ=φ->C1.w.heap=w.heap->c'.size=cA.size->ks.length+1<=c0->(∀(j:Nat) (k:List UInt8),(ins ks i x)[j]?=some k->c'[(φ kb).base+j]?=some (vH k))->
   Post E C1 R (.slice (some ⟨(φ kb).blk,(φ kb).base,none⟩) (ks.length+1) c0) (setW C1.w (φ kb).blk (.cells c' eA (0,0))):=by
  intro C1 c' wf1 sim1 hL1 hφ1 hw1 hc' hroom hget
  have hs1:C1.L[kb]?=some (.cells 1 (yA ks)):=by rw [hL1];exact hk
  have hh1:C1.w.heap[(C1.φ kb).blk]?=some (.cells cA eA (0,0)):=by rw [hφ1,hw1];exact hhA
  rw [<-hφ1]
  refine vC (rows':=yA (ins ks i x)) (r:=.sl kb 0 (ks.length+1) (ks.length+1)) (c:=cA) wf1 sim1 hs1 hh1 (.inl rfl) hc' (JP (by rw [hφ1];omega) (by rw [hφ1];exact hget)) ?_ ?_
  ·have e0:(C1.φ kb).base=(C1.φ kb).base+0*(C1.φ kb).sz:=by omega
   have:=VR.sl (C:=jM C1 kb (.cells c' eA (0,0)) (.cells 1 (yA (ins ks i x)))) kb 0 (ks.length+1) (ks.length+1) (some ⟨(C1.φ kb).blk,(C1.φ kb).base+0*(C1.φ kb).sz,none⟩) c0 (Jb (k:=.cells _ _) rfl ⟨_,hs1,rfl⟩) (Nat.le_refl _) hroom
    (.inr ⟨by simp [jM],c',eA,(0,0),?_,?_⟩) hm0
   ·rw [<-e0] at this;exact this
   ·exact zT (Array.getElem?_eq_some_iff.1 hh1).1
   ·show (C1.φ kb).base+(0+c0)*(C1.φ kb).sz<=c'.size
    rw [hφ1,szA];omega
  ·rw [hL1]
   exact ⟨kb,rfl,List.getElem?_set_self (zf hk),.inl rfl,Keep.set Keep.refl fun _=>rfl⟩
 have anew:∀(C1:Ctx) (c':Array Value) (cap:Nat) (ty:TypeId),Wf E.g0 C1->Sim C1->C1.L=L->c'.size=cap->ks.length+1<=cap->cap<=9223372036854775807->(∀(j:Nat) (k:List UInt8),(ins ks i x)[j]?=some k->c'[j]?=some (vH k))->
   Post E C1 R (.slice (some ⟨C1.w.heap.size,0,none⟩) (ks.length+1) cap) (yK C1.w (.cells c' ty)):=by
  intro C1 c' cap ty wf1 sim1 hL1 hc' hcap hcm hget
  refine WY (g:=L.length) (r:=.sl L.length 0 (ks.length+1) (ks.length+1)) (rows:=yA (ins ks i x)) (sz:=1) (.inl (by rw [hL1])) wf1 sim1 (JP od (fun j k hj=>by rw [Nat.zero_add];exact hget j k hj)) (WN (.inl (by rw [hL1])) (Nat.le_refl _) hcap od hcm) ?_
  rw [hL1,Zw]
  exact ⟨L.length,rfl,by simp,.inr rfl,Keep.app Keep.refl⟩
 have hlm:(ks.map vH).length=ks.length:=by simp
 by_cases hin:i=ks.length
 ·subst hin
  by_cases hroom:ks.length+1<=c0
  ·refine (Any2.slices_Insert_string_end_room Tryz.laysNm222 (φ kb).blk (φ kb).base ks.length c0 (φ vb).blk (φ vb).base 1 c2 [vH x] w od hroom hm0 rfl (fun j hj=>hcell _ od) (fun j _=>hfrz _) g2 g4).mono fun e w' ⟨he,hw⟩=>?_
   subst he hw
   rw [yC _ _ _ _ hhA]
   refine hfin _ _ (inplace ⟨w,φ,L,X⟩ _ wf sim rfl rfl rfl (Yd _ _ _) hroom fun j k hj=>?_)
   rw [ve _ _ _ _ (by simp;omega)]
   rw [z1t hi] at hj
   by_cases hj1:j<ks.length
   ·rw [if_pos hj1] at hj
    rw [if_neg (by simp;omega)]
    exact hcs j k hj
   ·rw [if_neg hj1] at hj
    by_cases hj2:j=ks.length
    ·subst hj2
     rw [if_pos rfl] at hj
     cases hj
     rw [if_pos (by simp),Nat.sub_self]
     rfl
    ·rw [if_neg hj2,List.getElem?_eq_none od] at hj
     cases hj
  ·refine (Any2.slices_Insert_string_end_grow Tryz.laysNm222 (some ⟨(φ kb).blk,(φ kb).base,none⟩) ks.length c0 (φ vb).blk (φ vb).base 1 c2 (ks.map vH) [vH x] w od hc0 od od hlm rfl (fun h=>by cases h) (fun a ha j v hj=>by cases ha;rw [zga];exact g1 j v hj) g2 g4).mono fun e w' ⟨he,hw⟩=>?_
   subst he hw
   refine hfin _ _ (Post.of_ext (Ze ⟨w,φ,L,X⟩) rfl ?_)
   refine anew (yP ⟨w,φ,L,X⟩) _ _ _ (y9 wf) (ZE sim) rfl ?_ (grownCap_ge _ _ _ _) (grownCap_le_maxLen _ _ _ _ (by show _<=2^63 - 1;omega)) fun j k hj=>?_
   ·have:=grownCap_ge w (ks.length+1) c0 (Tryz.laysNm222_ren.t 9)
    rw [Array.size_append,size_zeroCells]
    simp [Value.cells]
    omega
   ·have hjl:=zf hj
    rw [hlins] at hjl
    rw [Array.getElem?_append_left (by simp;omega),List.getElem?_toArray]
    rw [z1t hi] at hj
    by_cases hj1:j<ks.length
    ·rw [if_pos hj1] at hj
     rw [List.getElem?_append_left (by simp;omega),List.getElem?_map,hj];rfl
    ·have hj2:j=ks.length:=by omega
     rw [if_neg hj1,if_pos hj2] at hj
     cases hj
     rw [List.getElem?_append_right (by simp;omega),hlm,hj2,Nat.sub_self]
     rfl
 ·have hil:i<ks.length:=by omega
  have hdl:((ks.map vH).drop i).length=ks.length - i:=by simp
  by_cases hroom:ks.length+1<=c0
  ·refine (Any2.slices_Insert_string_shift Tryz.laysNm222 (φ kb).blk (φ kb).base ks.length c0 i (φ vb).blk (φ vb).base 1 c2 (ks.map vH) [vH x] w hil od hroom hm0 hbne hlm rfl g1 (fun j hj=>hcell _ od) (fun j _=>hfrz _) g2 g3 g4 eB eA cB.size cA.size (by simp [World.shape?,hhB]) (by simp [World.shape?,hhA]) od (hfrzB _) (hfrzB _)).mono fun e w' ⟨he,hw⟩=>?_
   subst he hw
   have hd:w.drew.heap[(φ kb).blk]?=some (.cells cA eA (0,0)):=hhA
   rw [yC _ _ _ _ hd,yC _ _ _ _ (zT (Array.getElem?_eq_some_iff.1 hd).1),z2z]
   refine hfin _ _ (Post.of_ext (Ze ⟨w,φ,L,X⟩) rfl ?_)
   refine inplace (yP ⟨w,φ,L,X⟩) _ (y9 wf) (ZE sim) rfl rfl rfl (by rw [Yd,Yd]) hroom fun j k hj=>?_
   have hjl:=zf hj
   rw [hlins] at hjl
   rw [ve _ _ _ _ (by rw [Yd];simp;omega),ve _ _ _ _ (by rw [hdl];omega)]
   rw [z1t hi] at hj
   by_cases hj1:j<i
   ·rw [if_pos hj1] at hj
    rw [if_neg (by simp;omega),if_neg od]
    exact hcs j k hj
   ·rw [if_neg hj1] at hj
    by_cases hj2:j=i
    ·subst hj2
     rw [if_pos rfl] at hj
     cases hj
     rw [if_pos (by simp),Nat.sub_self]
     rfl
    ·rw [if_neg hj2] at hj
     rw [if_neg (by simp;omega),if_pos (by rw [hdl];omega),List.getElem?_drop,List.getElem?_map,show i+((φ kb).base+j - ((φ kb).base+(i+1)))=j - 1 by omega,hj]
     rfl
  ·refine (Any2.slices_Insert_string_grow Tryz.laysNm222 (φ kb).blk (φ kb).base ks.length c0 i (φ vb).blk (φ vb).base 1 c2 (ks.map vH) [vH x] w hil od hc0 od od hlm rfl g1 g2 g3 g4).mono fun e w' ⟨he,hw⟩=>?_
   obtain ⟨cap,hcap⟩:∃cap,grownCap w (ks.length+1) c0 (Tryz.laysNm222_ren.t 9)=cap:=⟨_,rfl⟩
   have hge:=grownCap_ge w (ks.length+1) c0 (Tryz.laysNm222_ren.t 9)
   have hle:grownCap w (ks.length+1) c0 (Tryz.laysNm222_ren.t 9)<=9223372036854775807:=grownCap_le_maxLen _ _ _ _ (by show _<=2^63 - 1;omega)
   rw [hcap] at hge hle he hw
   obtain ⟨big,hbig⟩:∃big,((ks.map vH).take i).toArray++Builtin.zeroCells (Value.string ⟨#[]⟩).cells (ks.length+1 - i)++Builtin.zeroCells (Value.string ⟨#[]⟩).cells (cap - (ks.length+1))=big:=⟨_,rfl⟩
   have hbs:big.size=cap:=by
    rw [<-hbig,Array.size_append,Array.size_append,size_zeroCells,size_zeroCells]
    simp [Value.cells]
    omega
   have hbg:∀j,j<i->big[j]?=(ks.map vH)[j]?:=fun j hj=>by
    rw [<-hbig,Array.getElem?_append_left (by simp;omega),Array.getElem?_append_left (by simp;omega),List.getElem?_toArray,List.getElem?_take,if_pos hj]
   rw [hbig] at hw
   have e1:((w.alloc (.cells big (Tryz.laysNm222_ren.t 9))).drew).heap[w.heap.size]?=some (.cells big (Tryz.laysNm222_ren.t 9) (0,0)):=by
    show (w.heap.push _)[w.heap.size]?=_
    rw [Array.getElem?_push,if_pos rfl]
   rw [yC _ _ _ _ e1] at hw
   have e2:((setW (w.alloc (.cells big (Tryz.laysNm222_ren.t 9))).drew w.heap.size (.cells (z6o big i [vH x]) (Tryz.laysNm222_ren.t 9) (0,0))).drew).heap[w.heap.size]?=some (.cells (z6o big i [vH x]) (Tryz.laysNm222_ren.t 9) (0,0)):=zT (Array.getElem?_eq_some_iff.1 e1).1
   rw [yC _ _ _ _ e2] at hw
   have e3:setW ((setW (w.alloc (.cells big (Tryz.laysNm222_ren.t 9))).drew w.heap.size (.cells (z6o big i [vH x]) (Tryz.laysNm222_ren.t 9) (0,0))).drew) w.heap.size (.cells (z6o (z6o big i [vH x]) (i+1) ((ks.map vH).drop i)) (Tryz.laysNm222_ren.t 9) (0,0))=yK w.drew.drew (.cells (z6o (z6o big i [vH x]) (i+1) ((ks.map vH).drop i)) (Tryz.laysNm222_ren.t 9) (0,0)):=by
    simp only [setW,yK,World.alloc,World.drew,zcO]
   rw [e3] at hw
   subst he hw
   refine hfin _ _ (Post.of_ext ((Ze ⟨w,φ,L,X⟩).trans (Ze (yP ⟨w,φ,L,X⟩))) rfl ?_)
   refine anew (yP (yP ⟨w,φ,L,X⟩)) _ cap _ (y9 (y9 wf)) (ZE (ZE sim)) rfl (by rw [Yd,Yd,hbs]) hge hle fun j k hj=>?_
   have hjl:=zf hj
   rw [hlins] at hjl
   rw [ve _ _ _ _ (by rw [Yd,hdl,hbs];omega),ve _ _ _ _ (by rw [hbs];simp;omega),hdl]
   rw [z1t hi] at hj
   by_cases hj1:j<i
   ·rw [if_pos hj1] at hj
    rw [if_neg od,if_neg (by simp;omega),hbg j hj1,List.getElem?_map,hj]
    rfl
   ·rw [if_neg hj1] at hj
    by_cases hj2:j=i
    ·subst hj2
     rw [if_pos rfl] at hj
     cases hj
     rw [if_neg od,if_pos (by simp),Nat.sub_self]
     rfl
    ·rw [if_neg hj2] at hj
     rw [if_pos od,List.getElem?_drop,List.getElem?_map,show i+(j - (i+1))=j - 1 by omega,hj]
     rfl
theorem z7F (hP:E.P=Tryz.prog) {x:List UInt8} {d:Nat} (hv:L[d]?=some (.cells 1 [[.str x]])) :
  XT E 153 [.nsl,.int .i64 0,.sl d 0 1 1] L fun r L'=>r=.sl L.length 0 1 1/\L'=L++[.cells 1 (yA [x])]:=by
 refine ⟨⟨Tryz.f153,by rw [hP];rfl,by decide,by rfl⟩,fun w b X vs wf A hG hl l=>?_⟩
 match vs,hl with
 | [a0,a1,a2],_=>
 have I:=l 0 _ rfl
 have u:=l 1 _ rfl
 have M:=l 2 _ rfl
 change VR _ _ a0 at I
 change VR _ _ a1 at u
 change VR _ _ a2 at M
 cases u
 cases I
 cases M with
 | sl _ _ _ _ b2 c2 ai ah ae V af=>
 obtain ⟨rfl,Z,eB,S,p,h⟩:=V.resolve_left od
 obtain ⟨szB,R,Q,J,s,ag,T,G⟩:=A d _ hv
 simp only at p s szB h T G
 rw [p] at s
 obtain ⟨rfl,rfl,rfl⟩:Z=R/\eB=Q/\S=J:=by simpa using s
 rw [szB] at h ⊢
 have U:(b d).base+0*1=(b d).base:=by omega
 rw [U]
 have hx:Z[(b d).base]?=some (vH x):=by
  obtain ⟨v,h1,h2⟩:=(G 0 _ rfl).2 0 _ rfl
  cases h2
  have e9:(b d).base+0*1+0=(b d).base:=by omega
  rw [e9] at h1
  exact h1
 rw [hP]
 show Calls Tryz.prog 153 #[.slice none 0 0,.int .i64 0,.slice (some ⟨(b d).blk,(b d).base,none⟩) 1 c2] w _
 refine (Any2.slices_Insert_string_end_grow Tryz.laysNm222 none 0 0 (b d).blk (b d).base 1 c2 [] [vH x] w od od od od rfl rfl (fun _=>rfl) (fun a ha=>by cases ha) (fun j v q=>?_) (fun v B=>by rw [List.mem_singleton] at B;subst B;exact z1j x)).mono fun e w' ⟨Y,hw⟩=>?_
 ·cases j with
  | zero=>simp at q;subst q;exact Wh p hx
  | succ j=>simp at q
 ·have m:=grownCap_ge w (0+1) 0 (Tryz.laysNm222_ren.t 9)
  have D:grownCap w (0+1) 0 (Tryz.laysNm222_ren.t 9)<=9223372036854775807:=grownCap_le_maxLen _ _ _ _ (by show _<=2^63 - 1;omega)
  generalize grownCap w (0+1) 0 (Tryz.laysNm222_ren.t 9)=cap at m D Y hw
  subst Y hw
  have hp:Post E (yP ⟨w,b,L,X⟩) (fun r L'=>r=.sl L.length 0 1 1/\L'=L++[.cells 1 (yA [x])]) (.slice (some ⟨w.heap.size,0,none⟩) (0+1) cap) (yK (yP ⟨w,b,L,X⟩).w (.cells (([]++[vH x]:List Value).toArray++Builtin.zeroCells (Value.string ⟨#[]⟩).cells (cap - (0+1))) (Tryz.laysNm222_ren.t 9))):=by
   have hsz:(([]++[vH x]:List Value).toArray++Builtin.zeroCells (Value.string ⟨#[]⟩).cells (cap - (0+1))).size=cap:=by
    rw [Array.size_append,size_zeroCells]
    simp [Value.cells]
    omega
   refine WY (C:=yP ⟨w,b,L,X⟩) (g:=L.length) (r:=.sl L.length 0 1 1) (rows:=yA [x]) (sz:=1) (.inl rfl) (y9 wf) (ZE A) (JP (by rw [hsz];simpa using m) (fun j k q=>?_)) (WN (.inl rfl) (Nat.le_refl _) m (by rw [hsz];omega) D) ?_
   ·cases j with
    | zero=>
     simp at q;subst q
     rw [Array.getElem?_append_left (by simp)]
     rfl
    | succ j=>simp at q
   ·show _/\Z4 L L.length _=_
    rw [Zw]
    exact ⟨rfl,rfl⟩
  obtain ⟨r,L',O,h1,h2,h3,h4,h5⟩:=Post.of_ext (Ze ⟨w,b,L,X⟩) rfl hp
  exact ⟨r,L',O,_,h1,rfl,h2,h3,h4,h5⟩
end
end Go.X.TryzW
end
section
open Go Go.X Go.Proofs
set_option maxRecDepth 100000
set_option maxHeartbeats 4000000
namespace Go.X.TryzW
section
variable {E:Env} {ρ:Rho} {L:List Blk} {K:IV->List Blk->Prop}
def zgL : XC :=(sO [oV 4 (.str []),oV 5 (.bool false)] (sO [oM 9 0,oN 10 9,oF 11 2 10,oF 12 1 11,oL 13 12,oM 14 1,oO 15 (.ex (.mlook true (.str []) true) [.t 13,.t 14]),oM 8 15,oX 16 0 8,oX 17 1 8,oM 6 16,oM 7 17] (sO [oM 18 6,oM 19 7,oM 4 18,oM 5 19] .ret)))
def jq:List (IV × IV × Nat)->List UInt8->Option (List UInt8)
 | [],_=>none
 | (.str a,.str b,_)::r,k=>if a=k then some b else jq r k
 | _::r,k=>jq r k
def Ju (es:List (IV × IV × Nat)):Prop:=∀e∈es,∃a b n,e=(.str a,.str b,n)
theorem z0c:∀{d:List (IV × IV × Nat)} {k v:List UInt8},Ju d->jq d k=some v->∀j,∃i b,yR (.str k) d j=some (some (j+i))/\d[i]?=some (.str k,.str v,b)
 | [],_,_,_,h,_=>by cases h
 | e::r,k,v,hs,h,j=>by
  obtain ⟨a,b,n,rfl⟩:=hs e List.mem_cons_self
  simp only [jq] at h
  by_cases hk:a=k
  ·rw [if_pos hk] at h
   cases h
   subst hk
   exact ⟨0,n,by simp [yR,kEq],rfl⟩
  ·rw [if_neg hk] at h
   obtain ⟨i,l,h1,h2⟩:=z0c (fun e m=>hs e (List.mem_cons_of_mem _ m)) h (j+1)
   refine ⟨i+1,l,?_,by simpa using h2⟩
   simp only [yR,kEq,decide_eq_false (Ne.symm hk),h1]
   congr 2;omega
theorem z5A:∀{d:List (IV × IV × Nat)} {k:List UInt8},Ju d->jq d k=none->∀j,yR (.str k) d j=some none
 | [],_,_,_,_=>rfl
 | e::r,k,hs,h,j=>by
  obtain ⟨a,b,n,rfl⟩:=hs e List.mem_cons_self
  simp only [jq] at h
  by_cases hk:a=k
  ·rw [if_pos hk] at h;cases h
  ·rw [if_neg hk] at h
   simp only [yR,kEq,decide_eq_false (Ne.symm hk)]
   exact z5A (fun e l=>hs e (List.mem_cons_of_mem _ l)) h (j+1)
theorem z6p:∀{q:List (IV × IV × Nat)} {k v:List UInt8} {i n j:Nat},Ju q->yR (.str k) q j=some (some (j+i))->∀d,jq (q.set i (.str k,.str v,n)) d=if d=k then some v else jq q d
 | [],_,_,_,_,_,_,h,_=>by simp [yR] at h
 | e::r,k,v,i,n,j,hs,h,d=>by
  obtain ⟨a,b,m,rfl⟩:=hs e List.mem_cons_self
  by_cases hk:a=k
  ·subst hk
   simp [yR,kEq] at h
   subst h
   simp only [List.set_cons_zero,jq]
   by_cases h1:d=a
   ·rw [if_pos h1,if_pos h1.symm]
   ·rw [if_neg h1,if_neg (Ne.symm h1),if_neg (Ne.symm h1)]
  ·simp only [yR,kEq,decide_eq_false (Ne.symm hk)] at h
   cases i with
   | zero=>
    exfalso
    have:∀(r:List (IV × IV × Nat)) (l p:Nat),yR (.str k) r l=some (some p)->l<=p:=fun r=>by
     induction r with
     | nil=>intro l p h;simp [yR] at h
     | cons e r s=>
      intro l p h
      simp only [yR] at h
      split at h
      ·simp at h;omega
      ·have:=s _ _ h;omega
      ·cases h
    have:=this _ _ _ h
    omega
   | succ i=>
    have s:=z6p (v:=v) (n:=n) (i:=i) (j:=j+1) (fun e u=>hs e (List.mem_cons_of_mem _ u)) (by rw [h];congr 2;omega) d
    simp only [List.set_cons_succ,jq,s]
    by_cases h1:a=d
    ·rw [if_pos h1,if_pos h1,if_neg (fun h2=>hk (h1.trans h2))]
    ·rw [if_neg h1,if_neg h1]
theorem z5P:∀{j:List (IV × IV × Nat)} {k v:List UInt8} {n:Nat},Ju j->jq j k=none->∀d,jq (j++[(.str k,.str v,n)]) d=if d=k then some v else jq j d
 | [],k,v,n,_,_,d=>by
  simp only [List.nil_append,jq]
  by_cases h1:d=k
  ·rw [if_pos h1,if_pos h1.symm]
  ·rw [if_neg h1,if_neg (Ne.symm h1)]
 | e::r,k,v,n,hs,h,d=>by
  obtain ⟨a,b,m,rfl⟩:=hs e List.mem_cons_self
  simp only [jq] at h
  by_cases hk:a=k
  ·rw [if_pos hk] at h;cases h
  ·rw [if_neg hk] at h
   have l:=z5P (v:=v) (n:=n) (fun e p=>hs e (List.mem_cons_of_mem _ p)) h d
   simp only [List.cons_append,jq,l]
   by_cases h1:a=d
   ·rw [if_pos h1,if_pos h1,if_neg (fun h2=>hk (h1.trans h2))]
   ·rw [if_neg h1,if_neg h1]
theorem zai {b:List (IV × IV × Nat)} {i n:Nat} {k v:List UInt8} (h:Ju b):Ju (b.set i (.str k,.str v,n)):=fun e d=>by
 rcases List.mem_or_eq_of_mem_set d with h1 | rfl
 ·exact h e h1
 ·exact ⟨_,_,_,rfl⟩
theorem z9a {b:List (IV × IV × Nat)} {n:Nat} {k v:List UInt8} (h:Ju b):Ju (b++[(.str k,.str v,n)]):=fun e d=>by
 rcases List.mem_append.1 d with h1 | h1
 ·exact h e h1
 ·rw [List.mem_singleton] at h1;exact ⟨_,_,_,h1⟩
def z2f (es:List (IV × IV × Nat)):Prop:=Ju es/\(es.map (·.1)).Nodup
theorem z5I:∀{d:List (IV × IV × Nat)} {k:List UInt8},Ju d->jq d k=none->¬IV.str k∈d.map (·.1)
 | [],_,_,_,h=>nomatch h
 | e::r,k,hs,h,hm=>by
  obtain ⟨a,b,n,rfl⟩:=hs e List.mem_cons_self
  simp only [jq] at h
  by_cases hk:a=k
  ·rw [if_pos hk] at h;cases h
  ·rw [if_neg hk] at h
   rcases List.mem_cons.1 hm with h1 | h1
   ·injection h1 with h1;exact hk h1.symm
   ·exact z5I (fun e j=>hs e (List.mem_cons_of_mem _ j)) h h1
theorem z9u {d:List (IV × IV × Nat)} {n:Nat} {k v:List UInt8} (h:z2f d) (l:jq d k=none):z2f (d++[(.str k,.str v,n)]):=by
 refine ⟨z9a h.1,?_⟩
 rw [List.map_append,List.nodup_append]
 refine ⟨h.2,by simp,fun a ha b j=>?_⟩
 simp only [List.map_cons,List.map_nil,List.mem_singleton] at j
 subst j
 rintro rfl
 exact z5I h.1 l ha
theorem z8G {d:List (IV × IV × Nat)} {i n b:Nat} {k v w:List UInt8} (h:z2f d) (hi:d[i]?=some (.str k,.str w,b)):z2f (d.set i (.str k,.str v,n)):=by
 refine ⟨zai h.1,?_⟩
 rw [List.map_set]
 have e:(d.map (·.1)).set i (IV.str k)=d.map (·.1):=by
  apply List.ext_getElem?
  intro j
  by_cases hj:i=j
  ·subst hj
   rw [List.getElem?_set_self (by rw [List.length_map];exact (List.getElem?_eq_some_iff.1 hi).1),List.getElem?_map,hi]
   rfl
  ·rw [List.getElem?_set_ne hj]
 show ((d.map (·.1)).set i (IV.str k)).Nodup
 rw [e]
 exact h.2
theorem z0Z:∀{j:List (IV × IV × Nat)} {k w:List UInt8} {i b:Nat},z2f j->j[i]?=some (.str k,.str w,b)->∀d,jq (j.eraseIdx i) d=if d=k then none else jq j d
 | [],_,_,_,_,_,h,_=>by simp at h
 | e::r,k,w,i,b,hs,h,d=>by
  obtain ⟨a,v,m,rfl⟩:=hs.1 e List.mem_cons_self
  have q:=List.nodup_cons.1 hs.2
  have s:z2f r:=⟨fun e l=>hs.1 e (List.mem_cons_of_mem _ l),q.2⟩
  cases i with
  | zero=>
   simp only [List.getElem?_cons_zero,sij,Prod.mk.injEq,IV.str.injEq] at h
   obtain ⟨rfl,rfl,rfl⟩:=h
   simp only [List.eraseIdx_cons_zero,jq]
   by_cases h1:d=a
   ·rw [if_pos h1]
    subst h1
    have:=mval_no s.1 q.1
    exact this
   ·rw [if_neg h1,if_neg (Ne.symm h1)]
  | succ i=>
   simp only [List.getElem?_cons_succ] at h
   have u:=z0Z s h d
   have p:¬a=k:=by
    rintro rfl
    exact q.1 (List.mem_map.2 ⟨_,List.mem_of_getElem? h,rfl⟩)
   simp only [List.eraseIdx_cons_succ,jq,u]
   by_cases h1:a=d
   ·rw [if_pos h1,if_pos h1,if_neg (fun h2=>p (h1.trans h2))]
   ·rw [if_neg h1,if_neg h1]
 where mval_no:∀{r:List (IV × IV × Nat)} {k:List UInt8},Ju r->¬IV.str k∈r.map (·.1)->jq r k=none
 | [],_,_,_=>rfl
 | e::r,k,hs,h=>by
  obtain ⟨a,v,m,rfl⟩:=hs e List.mem_cons_self
  simp only [List.map_cons,List.mem_cons,not_or,IV.str.injEq] at h
  simp only [jq]
  rw [if_neg (Ne.symm h.1)]
  exact mval_no (fun e l=>hs e (List.mem_cons_of_mem _ l)) h.2
theorem z4A {b:List (IV × IV × Nat)} {i:Nat} (h:z2f b):z2f (b.eraseIdx i):=
 ⟨fun e d=>h.1 e (List.mem_of_mem_eraseIdx d),h.2.sublist ((List.eraseIdx_sublist b i).map _)⟩
def MapOf (L:List Blk) (m:Nat) (d:KV):Prop:=∃es c,L[m]?=some (.map es c)/\z2f es/\∀k,jq es k=d.get k
def YV (L:List Blk) (v:IV) (F:Nat->Prop) (d:KV):Prop:=(v=.nsl/\d=[]/\F=none')\/∃kb,v=.sl kb 0 d.keys.length d.keys.length/\L[kb]?=some (.cells 1 (yA d.keys))/\d≠[]/\F=fun t=>t=kb
def zl (L:List Blk) (s:Nat) (F:Nat->Prop) (N:Nat) (fence:Int) (d:KV):Prop:=∃lg m FL FK,∃keys:IV,∃sz cm:Int,L[s]?=some (.cells 6 [[.ptr lg 0 0,.int .i64 fence,keys,.mp m,.int .i64 sz,.int .i64 cm]])/\
 VT L lg FL N/\¬FL s/\¬FL m/\MapOf L m d/\YV L keys FK d/\(∀t,FK t->¬FL t)/\d.sorted/\F=fun t=>t=s\/t=m\/FK t\/FL t
theorem YV.lt {v:IV} {F:Nat->Prop} {d:KV} (h:YV L v F d):∀t,F t->t<L.length:=by
 rcases h with ⟨_,_,rfl⟩ | ⟨j,_,h,_,rfl⟩
 ·intro t b;exact b.elim
 ·rintro t rfl;exact zf h
theorem YV.keep {v:IV} {F G:Nat->Prop} {d:KV} {L':List Blk} (h:YV L v F d) (b:Keep G L L') (m:∀t,F t->¬G t):YV L' v F d:=by
 rcases h with h | ⟨j,h1,h2,l,rfl⟩
 ·exact .inl h
 ·exact .inr ⟨j,h1,b.get h2 (m _ rfl),l,rfl⟩
theorem MapOf.keep {m:Nat} {G:Nat->Prop} {d:KV} {L':List Blk} (h:MapOf L m d) (b:Keep G L L') (l:¬G m):MapOf L' m d:=by
 obtain ⟨j,c,h1,h2⟩:=h
 exact ⟨j,c,b.get h1 l,h2⟩
theorem zl.lt {s N:Nat} {F:Nat->Prop} {b:Int} {d:KV} (h:zl L s F N b d):s<L.length/\F s/\∀t,F t->t<L.length:=by
 obtain ⟨lg,m,FL,FK,keys,sz,w,h1,h2,u,q,⟨v,c,l,_⟩,j,r,p,rfl⟩:=h
 refine ⟨zf h1,.inl rfl,?_⟩
 rintro t (rfl | rfl | h | h)
 ·exact zf h1
 ·exact zf l
 ·exact j.lt t h
 ·exact h2.lt.2.2 t h
theorem zl.keep {s N:Nat} {F G:Nat->Prop} {b:Int} {d:KV} {L':List Blk} (h:zl L s F N b d) (l:Keep G L L') (j:∀t,F t->¬G t):zl L' s F N b d:=by
 obtain ⟨lg,m,FL,FK,keys,sz,B,h1,h2,A,u,v,r,w,q,rfl⟩:=h
 exact ⟨lg,m,FL,FK,keys,sz,B,l.get h1 (j _ (.inl rfl)),h2.keep l fun t p=>j t (.inr (.inr (.inr p))),A,u,v.keep l (j _ (.inr (.inl rfl))),r.keep l fun t p=>j t (.inr (.inr (.inl p))),w,q,rfl⟩
def zbb (d:KV) (k:List UInt8):IV:=.tup [.str ((d.get k).getD []),.bool (d.get k).isSome]
theorem z2G (B:E.P=Tryz.prog) {s N:Nat} {F:Nat->Prop} {j:Int} {d:KV} (h:zl L s F N j d) (k:List UInt8):XT E 122 [.ptr s 0 0,.str k] L fun r L'=>r=zbb d k/\L'=L:=by
 obtain ⟨lg,m,FL,FK,keys,sz,J,hs,_,_,_,⟨D,c,u,l,A⟩,_,_,_,rfl⟩:=h
 have I:=zg hs
 have G:=zg u
 have hg:=A k
 cases hd:d.get k with
 | none=>
  rw [hd] at hg
  have p:=z5A l.1 hg 0
  refine xt2 (fn:=Tryz.f122) (rs:=[.tmp 4,.tmp 5]) (c:=zgL) B fun ρ q h1=>?_
  unfold zgL
  simp only [q,h1,hs,u,p,z0A,Wi,wK,isKey,go_sem]
  simp [zbb,hd]
 | some v=>
  rw [hd] at hg
  obtain ⟨i,b,p,hi⟩:=z0c l.1 hg 0
  rw [Nat.zero_add] at p
  have w:D.getD i default=(.str k,.str v,b):=by rw [List.getD_eq_getElem?_getD,hi];rfl
  refine xt2 (fn:=Tryz.f122) (rs:=[.tmp 4,.tmp 5]) (c:=zgL) B fun ρ q h1=>?_
  unfold zgL
  simp only [q,h1,hs,u,p,w,z0A,Wi,wK,isKey,go_sem]
  simp [zbb,hd]
def q79 : XC :=(sO [oO 3 (.box (.t 1))] (.seq (.drawE [oM 9 0,oN 10 9,oF 11 1 10,oL 12 11,oF 13 0 3,oL 14 13,oO 15 (.ex (.mlook true (.str []) true) [.t 12,.t 14]),oM 8 15,oX 16 0 8,oX 17 1 8,oM 4 16,oM 5 17]) (.seq (.drawE [oM 19 0,oN 20 19,oF 21 0 20,oL 22 21,oF 23 0 3,oL 24 23,oQ 25 151 [.t 22,.t 24],oM 18 25,oX 26 0 18,oX 27 1 18,oM 6 26,oM 7 27]) (.seq (sO [oM 28 5] (cT 28 (.drawE [oM 29 0,oN 30 29,oF 31 2 30,oL 32 31,oF 33 0 3,oL 34 33,oO 35 (.lenS (.t 34)),oM 36 4,oO 37 (.lenS (.t 36)),oB 38 .add 35 37,oB 39 .sub 32 38,oN 40 29,oF 41 2 40,oS 41 39]) .skip)) (.block 0 (sO [oF 79 2 3,oL 80 79,oM 81 80,oG 82 81 true (.mov (.t 5)),oO 83 (.pick (.t 81) (.t 82) (.c (.bool false))),oM 78 83] (cT 78 (sO [oM 84 0,oM 85 0,oN 86 85,oF 87 0 86,oL 88 87,oM 89 6,oM 90 6,oK 91 .add 90 1,oC 92 152 [.t 88,.t 89,.t 91],oN 93 84,oF 94 0 93,oS 94 92] (.drawE [oM 95 0,oN 96 95,oF 97 1 96,oL 98 97,oF 99 0 3,oL 100 99,oU (.ex (.mdel true) [.t 98,.t 100])])) (sO [oF 102 2 3,oL 103 102,oM 101 103] (cT 101 .skip (.seq (sO [oM 42 5,oO 43 (.un .not (.t 42))] (cT 43 (.drawE [oM 44 0,oM 45 0,oN 46 45,oF 47 0 46,oL 48 47,oM 49 6,oF 50 0 3,oL 51 50,oO 52 (.bslice 1 [(.str [])] 1 [(0,(.t 51))]),oC 53 153 [.t 48,.t 49,.t 52],oN 54 44,oF 55 0 54,oS 55 53]) .skip)) (.seq (.drawE [oM 56 0,oN 57 56,oF 58 1 57,oL 59 58,oF 60 0 3,oL 61 60,oF 62 1 3,oL 63 62,oU (.ex (.mset true) [.t 59,.t 61,.t 63])]) (.drawE [oM 64 0,oN 65 64,oF 66 2 65,oL 67 66,oF 68 0 3,oL 69 68,oO 70 (.lenS (.t 69)),oF 71 1 3,oL 72 71,oO 73 (.lenS (.t 72)),oB 74 .add 70 73,oB 75 .add 67 74,oN 76 64,oF 77 2 76,oS 77 75]))))))))))))
theorem zaP {L:List Blk} {n:Nat} {m:Ren} (ks:List (List UInt8)):zJ (zJ (conv L (n+1) m)) (yA ks)=some (yA ks):=by
 refine wz fun r b=>?_
 obtain ⟨k,_,rfl⟩:=List.mem_map.1 b
 rfl
theorem vF (s:E.P=Tryz.prog) {keys:IV} {FK:Nat->Prop} {d:KV} {k:List UInt8} (q:YV L keys FK d) (hs:d.sorted) (u:d.length<=900000) {KV':IV->List Blk->Prop} (h:KV' (.tup [.int .i64 (d.rank k),.bool (d.get k).isSome]) L) :
  xop E (.pcall (.c (.fn (.func 151) [] [])) [.c keys,.c (.str k)]) cev L KV':=by
 have l:d.keys.length=d.length:=by simp [KV.keys]
 have j:=z3O (E:=E) s (ks:=d.keys) (t:=k) (i:=d.rank k) (by rw [l];exact d.rank_le k) (d.rank_lt k) (d.rank_ge k hs) od
 have m:decide (d.keys[d.rank k]?=some k)=(d.get k).isSome:=by
  have:=d.rank_get k hs
  cases hg:(d.get k).isSome with
  | true=>rw [hg] at this;exact decide_eq_true (this.2 rfl)
  | false=>rw [hg] at this;exact decide_eq_false fun h=>by have:=this.1 h;cases this
 rw [m] at j
 rcases q with ⟨rfl,rfl,_⟩ | ⟨r,rfl,b,_,_⟩
 ·exact WS (args':=[.isl [],.str k]) rfl j rfl (fun _=>rfl) h
 ·refine WS (args':=[.isl (yA d.keys),.str k]) ?_ j rfl (fun _=>rfl) h
  have h1:(yA d.keys).take d.keys.length=yA d.keys:=List.take_of_length_le (by rw [YI];exact Nat.le_refl _)
  have e1:conv L fuel zF (.sl r 0 d.keys.length d.keys.length)=some (.isl (yA d.keys)):=by
   simp [fuel,conv,zF,b,YI,h1,zaP]
  have p:conv L fuel zF (.str k)=some (.str k):=rfl
  simp only [List.nil_append,List.map_cons,List.map_nil,List.append_nil,Z9,zJ,e1,p]
theorem zco (I:E.P=Tryz.prog) {keys:IV} {FK:Nat->Prop} {d:KV} {k v:List UInt8} {w:Nat} (J:YV L keys FK d) (hs:d.sorted) (hg:d.get k=none) (G:L[w]?=some (.cells 1 [[.str k]])) (u:¬FK w) (M:d.length<=900000) :
  XT E 153 [keys,.int .i64 (d.rank k),.sl w 0 1 1] L fun r L'=>(cellsOf r=[r]/\zG r=true)/\(∃FK',YV L' r FK' (d.put k v)/\Grown FK FK' L L')/\Keep FK L L':=by
 have b:=d.keys_put_new k v hg
 have j:d.put k v≠[]:=by
  intro h
  rw [h] at b
  simp [KV.keys] at b
 have m:(d.put k v).keys.length=d.keys.length+1:=by
  rw [b]
  have:=d.rank_le k
  have e1:d.keys.length=d.length:=by simp [KV.keys]
  simp
  omega
 rcases J with ⟨rfl,rfl,rfl⟩ | ⟨O,rfl,s,D,rfl⟩
 ·refine (z7F I G).mono ?_
  rintro r L' ⟨rfl,rfl⟩
  refine ⟨⟨rfl,rfl⟩,⟨fun t=>t=L.length,.inr ⟨L.length,rfl,?_,j,rfl⟩,fun t B=>.inr ?_⟩,Keep.app Keep.refl⟩
  ·rw [b];simp [KV.keys,KV.rank]
  ·subst B;exact ⟨Nat.le_refl _,by simp⟩
 ·have e1:d.keys.length=d.length:=by simp [KV.keys]
  have p:0<d.keys.length:=by rw [e1];exact List.length_pos_iff.2 D
  refine (zar I s G (fun h=>u h.symm) (by rw [e1];exact d.rank_le k) p od).mono ?_
  rintro r L' ⟨g,rfl,l,A,q⟩
  have hi:ins d.keys (d.rank k) k=(d.put k v).keys:=by rw [b];rfl
  rw [hi] at l
  refine ⟨⟨rfl,rfl⟩,⟨fun t=>t=g,.inr ⟨g,by rw [m],l,j,rfl⟩,fun t B=>?_⟩,q⟩
  subst B
  rcases A with h | h
  ·exact .inl h
  ·right;exact ⟨od,zf l⟩
theorem zfG (hP:E.P=Tryz.prog) {s N:Nat} {F:Nat->Prop} {l:Int} {d:KV} (h:zl L s F N l d) (k v:List UInt8) (hN:d.length<=900000) :
  XT E 79 [.ptr s 0 2,.agg [.str k,.str v,.bool false]] L fun r L'=>r=.tup []/\(∃F',zl L' s F' N l (d.put k v)/\Grown F F' L L')/\Keep F L L':=by
 have dw:=h.lt
 obtain ⟨lg,m,FL,FK,keys,sz,S,hs,B,R,T,⟨es,c,J,A,Y⟩,p,Z,u,rfl⟩:=h
 have ls:=zg hs
 have lm:=zg J
 have lo:(L.length<(L++[Blk.cells 3 [[.str k,.str v,.bool false]]]).length)=True:=eq_true (by simp)
 have q1:=zo hs J (by simp)
 have q2:=zo J hs (by simp)
 have p1:(s=L.length)=False:=eq_false (by have:=zf hs;omega)
 have p2:(L.length=s)=False:=eq_false (by have:=zf hs;omega)
 have p3:(m=L.length)=False:=eq_false (by have:=zf J;omega)
 have p4:(L.length=m)=False:=eq_false (by have:=zf J;omega)
 have I:¬FK s:=by
  rcases p with ⟨_,_,rfl⟩ | ⟨kb,_,V,_,rfl⟩
  ·exact fun h=>h
  ·exact of_eq_false (zo hs V (by simp))
 have D:¬FK m:=by
  rcases p with ⟨_,_,rfl⟩ | ⟨kb,_,V,_,rfl⟩
  ·exact fun h=>h
  ·exact of_eq_false (zo J V (by simp))
 have af:YV (L++[Blk.cells 3 [[.str k,.str v,.bool false]]]) keys FK d:=p.keep (G:=none') kP fun _ _ h=>h
 have hg:=Y k
 cases hd:d.get k with
 | none=>
  rw [hd] at hg
  have X:=z5A A.1 hg 0
  refine xt2 (fn:=Tryz.f79) (rs:=[]) (c:=q79) hP fun ρ h0 h1=>?_
  unfold q79
  simp only [h0,h1,hs,ls,J,lm,X,z0A,Wi,wK,isKey,go_sem]
  refine vF (E:=E.noPan) hP af u hN ?_
  simp only [h0,hs,ls,wK,hd,go_sem]
  refine zh (zco (E:=E.noPan) (v:=v) hP (af.keep (G:=none') kP fun _ _ h=>h) u hd (by simp only [go_sem]<;>rfl) (fun h=>by have:=p.lt _ h;simp at this;omega) hN) ?_
  rintro r L2 ⟨⟨bi,bf⟩,⟨FK',ah,cu⟩,Q⟩
  have di:(([r]:List IV).all zG=true)=True:=by simp [bf]
  have ai:L2[s]?=some (.cells 6 [[.ptr lg 0 0,.int .i64 l,keys,.mp m,.int .i64 sz,.int .i64 S]]):=Q.get (by simp only [hs,ls,go_sem]) I
  have ak:L2[m]?=some (.map es c):=Q.get (by simp only [J,lm,go_sem]) D
  have az:L2[L.length]?=some (.cells 3 [[.str k,.str v,.bool false]]):=Q.get (by simp only [go_sem]<;>rfl) (fun h=>by have:=p.lt _ h;omega)
  have bg:=zg ai
  have df:=zg ak
  have dm:=zg az
  simp only [h0,ai,bg,ak,az,X,z0A,Wi,isKey,p1,p3,q1,q2,bi,List.drop,go_sem]
  have dn:=zf hs
  have ed:=zf J
  have bz:=B.lt
  have bu:Keep FK L L2:=Keep.trans (Keep.app (Keep.app Keep.refl)) Q fun _ _ h=>h
  have M:∀t,FK' t->FK t\/L.length<=t:=fun t w=>by
   rcases cu t w with h | ⟨h,_⟩
   ·exact .inl h
   ·right;simp only [lla,llc,lln] at h;omega
  have au:∀t,FK' t->t<L2.length:=ah.lt
  obtain ⟨L3,q⟩:∃L3,((L2.set s (Blk.cells 6 [[.ptr lg 0 0,.int .i64 l,r,.mp m,.int .i64 sz,.int .i64 S]])).set m (Blk.map (es++[(.str k,.str v,c)]) (c+1))).set s (Blk.cells 6 [[.ptr lg 0 0,.int .i64 l,r,.mp m,.int .i64 (IntKind.i64.wrap (sz+IntKind.i64.wrap (k.length+v.length))),.int .i64 S]])=L3:=⟨_,rfl⟩
  have ax:Keep (fun t=>t=s\/t=m) L2 L3:=by rw [<-q];exact kQ
  have k3:Keep (fun t=>t=s\/t=m\/FK t) L L3:=(bu.mono fun t _ h=>.inr (.inr h)).trans ax fun t _ h=>by rcases h with h | h;exact .inl h;exact .inr (.inl h)
  have ae:L3[s]?=some (.cells 6 [[.ptr lg 0 0,.int .i64 l,r,.mp m,.int .i64 (IntKind.i64.wrap (sz+IntKind.i64.wrap (k.length+v.length))),.int .i64 S]]):=by rw [<-q];simp only [bg,go_sem]
  have ag:L3[m]?=some (.map (es++[(.str k,.str v,c)]) (c+1)):=by rw [<-q];simp only [df,q1,go_sem]
  have dh:L2.length=L3.length:=by rw [<-q];simp
  rw [q]
  refine ⟨bf,⟨fun t=>t=s\/t=m\/FK' t\/FL t,⟨lg,m,FL,FK',r,_,S,ae,B.keep k3 ?_,R,T,⟨_,_,ag,z9u A hg,fun k'=>?_⟩,ah.keep ax ?_,?_,d.sorted_put k v u,rfl⟩,?_⟩,?_⟩
  ·rintro t w (rfl | rfl | h)
   ·exact R w
   ·exact T w
   ·exact Z t h w
  ·rw [z5P A.1 hg,d.get_put,Y]
  ·rintro t w h
   rcases M t w with h1 | h1
   ·rcases h with rfl | rfl
    ·exact I h1
    ·exact D h1
   ·omega
  ·intro t w h
   rcases M t w with h1 | h1
   ·exact Z t h1 h
   ·have:=bz.2.2 t h;omega
  ·rintro t (h | h | h | h)
   ·exact .inl (.inl h)
   ·exact .inl (.inr (.inl h))
   ·rcases M t h with h1 | h1
    ·exact .inl (.inr (.inr (.inl h1)))
    ·right;have:=au t h;omega
   ·exact .inl (.inr (.inr (.inr h)))
  ·exact k3.mono fun t _ h=>by rcases h with h | h | h;exact .inl h;exact .inr (.inl h);exact .inr (.inr (.inl h))
 | some v0=>
  rw [hd] at hg
  obtain ⟨i,b,X,hi⟩:=z0c A.1 hg 0
  rw [Nat.zero_add] at X
  have aj:es.getD i default=(.str k,.str v0,b):=by rw [List.getD_eq_getElem?_getD,hi];rfl
  refine xt2 (fn:=Tryz.f79) (rs:=[]) (c:=q79) hP fun ρ h0 h1=>?_
  unfold q79
  simp only [h0,h1,hs,ls,J,lm,X,aj,z0A,Wi,wK,isKey,go_sem]
  refine vF (E:=E.noPan) hP af u hN ?_
  simp only [h0,hs,ls,J,lm,X,aj,z0A,Wi,wK,isKey,p1,p3,q1,q2,hd,go_sem]
  have O:=d.keys_put_old k v u (by rw [hd];rfl)
  have U:d≠[]:=by rintro rfl;simp [KV.get] at hd
  have ay:d.put k v≠[]:=by
   intro h
   rw [h] at O
   have e1:d.keys.length=d.length:=by simp [KV.keys]
   rw [<-O] at e1
   have:=List.length_pos_iff.2 U
   simp [KV.keys] at e1
   omega
  obtain ⟨L3,q⟩:∃L3,(((L++[Blk.cells 3 [[.str k,.str v,.bool false]]]).set s (Blk.cells 6 [[.ptr lg 0 0,.int .i64 l,keys,.mp m,.int .i64 (IntKind.i64.wrap (sz - IntKind.i64.wrap (k.length+v0.length))),.int .i64 S]])).set m (Blk.map (es.set i (.str k,.str v,b)) c)).set s
   (Blk.cells 6 [[.ptr lg 0 0,.int .i64 l,keys,.mp m,.int .i64 (IntKind.i64.wrap (IntKind.i64.wrap (sz - IntKind.i64.wrap (k.length+v0.length))+IntKind.i64.wrap (k.length+v.length))),.int .i64 S]])=L3:=⟨_,rfl⟩
  have k3:Keep (fun t=>t=s\/t=m) L L3:=by rw [<-q];exact kQ
  have ae:L3[s]?=some (.cells 6 [[.ptr lg 0 0,.int .i64 l,keys,.mp m,.int .i64 (IntKind.i64.wrap (IntKind.i64.wrap (sz - IntKind.i64.wrap (k.length+v0.length))+IntKind.i64.wrap (k.length+v.length))),.int .i64 S]]):=by rw [<-q];simp only [ls,go_sem]
  have ag:L3[m]?=some (.map (es.set i (.str k,.str v,b)) c):=by rw [<-q];simp only [lm,q1,go_sem]
  rw [q]
  refine ⟨⟨fun t=>t=s\/t=m\/FK t\/FL t,⟨lg,m,FL,FK,keys,_,S,ae,B.keep k3 ?_,R,T,⟨_,_,ag,z8G A hi,fun k'=>?_⟩,?_,Z,d.sorted_put k v u,rfl⟩,Grown.refl⟩,?_⟩
  ·rintro t w (rfl | rfl)
   ·exact R w
   ·exact T w
  ·rw [z6p (j:=0) A.1 (by rw [Nat.zero_add];exact X),d.get_put,Y]
  ·have bn:=p.keep k3 (by rintro t w (rfl | rfl);exact I w;exact D w)
   rcases bn with ⟨_,h2,_⟩ | ⟨kb,h1,h2,h3,h4⟩
   ·exact absurd h2 U
   ·exact .inr ⟨kb,by rw [O];exact h1,by rw [O];exact h2,ay,h4⟩
  ·exact k3.mono fun t _ h=>by rcases h with h | h;exact .inl h;exact .inr (.inl h)
theorem z81 (s:E.P=Tryz.prog) {keys:IV} {FK:Nat->Prop} {d:KV} {k:List UInt8} (p:YV L keys FK d) (hs:d.sorted) (hg:(d.get k).isSome=true) (m:d.del k≠[]) (v:d.length<=900000) :
  XT E 152 [keys,.int .i64 (d.rank k),.int .i64 ((d.rank k+1:Nat):Int)] L fun r L'=>(cellsOf r=[r]/\zG r=true)/\YV L' r FK (d.del k)/\Keep FK L L'/\L'.length=L.length:=by
 have e1:d.keys.length=d.length:=by simp [KV.keys]
 have j:d.rank k<d.keys.length:=by
  have:=(d.rank_get k hs).2 hg
  exact (List.getElem?_eq_some_iff.1 this).1
 have b:=d.keys_del k hs hg
 have l:(d.del k).keys.length=d.keys.length - 1:=by rw [b];simp;omega
 rcases p with ⟨_,rfl,_⟩ | ⟨q,rfl,h,u,rfl⟩
 ·simp [KV.keys] at j
 ·refine (z8c s h j od).mono ?_
  rintro r L' ⟨rfl,rfl⟩
  refine ⟨⟨rfl,rfl⟩,.inr ⟨q,by rw [l],?_,m,rfl⟩,Keep.set Keep.refl fun _=>rfl,lls⟩
  rw [List.getElem?_set_self (zf h),b]
theorem zgq (hP:E.P=Tryz.prog) {s N:Nat} {F:Nat->Prop} {j:Int} {d:KV} {k v:List UInt8} (h:zl L s F N j d) (ag:(d.get k).isSome=true) (ay:d.del k≠[]) (hN:d.length<=900000) :
  XT E 79 [.ptr s 0 2,.agg [.str k,.str v,.bool true]] L fun r L'=>r=.tup []/\(∃F',zl L' s F' N j (d.del k)/\Grown F F' L L')/\Keep F L L':=by
 have bz:=h.lt
 obtain ⟨lg,m,FL,FK,keys,sz,cm,hs,O,V,Y,⟨es,c,B,I,R⟩,l,T,p,rfl⟩:=h
 have ls:=zg hs
 have lm:=zg B
 have lo:(L.length<(L++[Blk.cells 3 [[.str k,.str v,.bool true]]]).length)=True:=eq_true (by simp)
 have q1:=zo hs B (by simp)
 have q2:=zo B hs (by simp)
 have p1:(s=L.length)=False:=eq_false (by have:=zf hs;omega)
 have p2:(L.length=s)=False:=eq_false (by have:=zf hs;omega)
 have p3:(m=L.length)=False:=eq_false (by have:=zf B;omega)
 have p4:(L.length=m)=False:=eq_false (by have:=zf B;omega)
 have q:¬FK s:=by
  rcases l with ⟨_,_,rfl⟩ | ⟨kb,_,D,_,rfl⟩
  ·exact fun h=>h
  ·exact of_eq_false (zo hs D (by simp))
 have A:¬FK m:=by
  rcases l with ⟨_,_,rfl⟩ | ⟨kb,_,D,_,rfl⟩
  ·exact fun h=>h
  ·exact of_eq_false (zo B D (by simp))
 have X:YV (L++[Blk.cells 3 [[.str k,.str v,.bool true]]]) keys FK d:=l.keep (G:=none') kP fun _ _ h=>h
 have hg:=R k
 obtain ⟨v0,hd⟩:=Option.isSome_iff_exists.1 ag
 rw [hd] at hg
 obtain ⟨i,b,hf,hi⟩:=z0c I.1 hg 0
 rw [Nat.zero_add] at hf
 have Q:es.getD i default=(.str k,.str v0,b):=by rw [List.getD_eq_getElem?_getD,hi];rfl
 have bu:=d.rank_le k
 have w1:IntKind.i64.wrap ((d.rank k:Int)+1)=((d.rank k+1:Nat):Int):=wR
 refine xt2 (fn:=Tryz.f79) (rs:=[]) (c:=q79) hP fun ρ h0 h1=>?_
 unfold q79
 simp only [h0,h1,hs,ls,B,lm,hf,Q,z0A,Wi,wK,isKey,go_sem]
 refine vF (E:=E.noPan) hP X p hN ?_
 simp only [h0,hs,ls,Q,wK,p1,hd,w1,go_sem]
 refine zh (z81 (E:=E.noPan) hP (X.keep (G:=fun t=>t=s) (Keep.set Keep.refl fun _=>rfl) (fun t h1 h2=>q (h2▸h1))) p ag ay hN) ?_
 rintro r L2 ⟨⟨ai,ae⟩,ah,w,aj⟩
 have bf:(([r]:List IV).all zG=true)=True:=by simp [ae]
 have M:L2[s]?=some (.cells 6 [[.ptr lg 0 0,.int .i64 j,keys,.mp m,.int .i64 (IntKind.i64.wrap (sz - IntKind.i64.wrap (k.length+v0.length))),.int .i64 cm]]):=w.get (by simp only [ls,go_sem]) q
 have S:L2[m]?=some (.map es c):=w.get (by simp only [B,lm,q1,go_sem]) A
 have Z:L2[L.length]?=some (.cells 3 [[.str k,.str v,.bool true]]):=w.get (by simp only [p1,go_sem]<;>rfl) (fun h=>by have:=l.lt _ h;omega)
 have af:=zg M
 have az:=zg S
 have bg:=zg Z
 simp only [h0,M,af,S,Z,hf,z0A,Wi,isKey,p1,q1,ai,List.drop,go_sem]
 have bi:=zf hs
 have ak:Keep (fun t=>t=s\/FK t) L L2:=by
  refine Keep.trans (Keep.set (Keep.app Keep.refl) fun _=>.inl rfl) w fun t _ h=>.inr h
 have bn:L2.length=L.length+1:=by rw [aj];simp
 obtain ⟨L3,u⟩:∃L3,(L2.set s (Blk.cells 6 [[.ptr lg 0 0,.int .i64 j,r,.mp m,.int .i64 (IntKind.i64.wrap (sz - IntKind.i64.wrap (k.length+v0.length))),.int .i64 cm]])).set m (Blk.map (es.eraseIdx i) c)=L3:=⟨_,rfl⟩
 have U:Keep (fun t=>t=s\/t=m) L2 L3:=by rw [<-u];exact kQ
 have k3:Keep (fun t=>t=s\/t=m\/FK t) L L3:=(ak.mono fun t _ h=>h.imp id .inr).trans U fun t _ h=>by rcases h with h | h;exact .inl h;exact .inr (.inl h)
 have au:L3[s]?=some (.cells 6 [[.ptr lg 0 0,.int .i64 j,r,.mp m,.int .i64 (IntKind.i64.wrap (sz - IntKind.i64.wrap (k.length+v0.length))),.int .i64 cm]]):=by rw [<-u];simp only [af,q2,go_sem]
 have ax:L3[m]?=some (.map (es.eraseIdx i) c):=by rw [<-u];simp only [az,go_sem]
 rw [u]
 refine ⟨ae,⟨fun t=>t=s\/t=m\/FK t\/FL t,⟨lg,m,FL,FK,r,_,cm,au,O.keep k3 ?_,V,Y,⟨_,_,ax,z4A I,fun k'=>?_⟩,ah.keep U ?_,T,d.sorted_del k p,rfl⟩,Grown.refl⟩,?_⟩
 ·rintro t J (rfl | rfl | h)
  ·exact V J
  ·exact Y J
  ·exact T t h J
 ·rw [z0Z I hi,d.get_del k k' p,R]
 ·rintro t J (rfl | rfl)
  ·exact q J
  ·exact A J
 ·exact k3.mono fun t _ h=>by rcases h with h | h | h;exact .inl h;exact .inr (.inl h);exact .inr (.inr (.inl h))
def q78 : XC :=(sO [oM 6 1,oY 7 6,oI 8 0] (.block 0 (.loop (sO [oB 9 .lss 8 7] (.seq (cT 9 .skip (.exit 0)) (.seq (.block 1 (sO [oO 10 (.idxS 3 (.t 6) (.t 8)),oO 11 (.loadN 3 (.t 10)),oO 5 (.alloc [(.str []),(.str []),(.bool false)]),oU (.store 3 (.t 5) (.t 11))] (.drawE [oM 12 0,oN 13 12,oF 14 2 13,oO 15 (.loadN 3 (.t 5)),oC 16 79 [.t 14,.t 15]]))) (.ops [oK 17 .add 8 1,oM 8 17])))))))
def q89 : XC :=(sO [oI 6 0] (.seq (sO [oM 11 1,oM 12 0,oN 13 12,oF 14 1 13,oL 15 14,oB 16 .neq 11 15] (cT 16 (sO [oI 6 5] .ret) .skip)) (.seq (sO [oM 17 2,oC 18 161 [.t 17,(.f 162)]] (cT 18 (sO [oI 6 2] .ret) .skip)) (.seq (sO [oM 19 2,oC 20 164 [.t 19]] (cT 20 (sO [oI 6 9] .ret) .skip)) (.seq (sO [oM 21 2,oY 22 21,oK 23 .eql 22 0] (cT 23 (sO [oI 6 0] .ret) .skip)) (sO [oM 25 2,oC 26 120 [.t 25],oM 24 26,oX 27 0 24,oX 28 1 24,oM 7 27,oM 8 28] (.seq (.seq (.drawE [oM 30 0,oN 31 30,oF 32 0 31,oL 33 32,oM 34 7,oQ 35 166 [(.c (.int .u8 111)),.t 34],oC 36 165 [.t 33,.t 35],oM 29 36,oX 37 0 29,oX 38 1 29,oM 9 37,oM 10 38]) (sO [oM 39 10,oK 40 .neq 39 0] (cT 40 (sO [oM 41 10,oM 6 41] .ret) .skip))) (sO [oM 42 0,oM 43 2,oC 44 167 [.t 43],oC 45 78 [.t 42,.t 44]] (sO [oM 46 0,oN 47 46,oF 48 5 47,oL 49 48,oK 50 .add 49 1,oN 51 46,oF 52 5 51,oS 52 50] (sO [oI 6 0] .ret))))))))))
def zjR : XC :=(sO [oI 4 0] (.seq (sO [oM 7 1,oM 8 0,oN 9 8,oF 10 1 9,oL 11 10,oB 12 .leq 7 11] (cT 12 (sO [oI 4 5] .ret) .skip)) (.seq (sO [oM 13 1,oK 14 .gtr 13 4503599627370496] (cT 14 (sO [oI 4 1] .ret) .skip)) (.seq (.seq (.drawE [oM 16 0,oN 17 16,oF 18 0 17,oL 19 18,oM 20 1,oQ 21 216 [(.c (.int .u8 102)),.t 20],oC 22 165 [.t 19,.t 21],oM 15 22,oX 23 0 15,oX 24 1 15,oM 5 23,oM 6 24]) (sO [oM 25 6,oK 26 .neq 25 0] (cT 26 (sO [oM 27 6,oM 4 27] .ret) .skip))) (sO [oM 28 0,oM 29 1,oN 30 28,oF 31 1 30,oS 31 29] (sO [oM 32 0,oN 33 32,oF 34 5 33,oL 35 34,oK 36 .add 35 1,oN 37 32,oF 38 5 37,oS 38 36] (sO [oI 4 0] .ret)))))))
theorem _root_.Go.X.KV.put_len:∀(d:KV) (k v:List UInt8),(d.put k v).length<=d.length+1
 | [],k,v=>by simp [KV.put]
 | p::r,k,v=>by
  unfold KV.put
  have:=KV.put_len r k v
  split
  ·simp;omega
  ·split<;>simp
def _root_.Go.X.KV.step (d:KV) (o:OpV):KV:=if o.gone then d.del o.key else d.put o.key o.val
def _root_.Go.X.KV.puts (d:KV) (l:List OpV):KV:=l.foldl KV.step d
theorem _root_.Go.X.KV.puts_snoc (d:KV) (l:List OpV) (o:OpV):d.puts (l++[o])=(d.puts l).step o:=by simp [KV.puts]
theorem _root_.Go.X.KV.step_len (d:KV) (o:OpV):(d.step o).length<=d.length+1:=by
 unfold KV.step
 split
 ·have:=(d.del_sub o.key).length_le;omega
 ·exact d.put_len o.key o.val
theorem _root_.Go.X.KV.puts_len (d:KV):∀(l:List OpV),(d.puts l).length<=d.length+l.length:=by
 intro l
 induction l generalizing d with
 | nil=>exact Nat.le_refl _
 | cons o l b=>
  have h1:=b (d.step o)
  have h2:=d.step_len o
  have e:d.puts (o::l)=(d.step o).puts l:=rfl
  rw [e]
  simp only [llc]
  omega
def gok:KV->List OpV->Prop
 | _,[]=>True
 | d,o::r=>(o.gone=true->(d.get o.key).isSome=true/\d.del o.key≠[])/\gok (d.step o) r
theorem z2Q:∀{l:List OpV} {d:KV},(∀o∈l,o.gone=false)->gok d l
 | [],_,_=>trivial
 | o::r,d,h=>⟨fun h1=>(by rw [h o List.mem_cons_self] at h1;cases h1),z2Q fun o b=>h o (List.mem_cons_of_mem _ b)⟩
theorem zd7:∀{l:List OpV} {d:KV} {i:Nat} {o:OpV},gok d l->l[i]?=some o->o.gone=true->((d.puts (l.take i)).get o.key).isSome=true/\(d.puts (l.take i)).del o.key≠[]
 | [],_,_,_,_,h,_=>by simp at h
 | q::r,d,0,o,h,hi,hg=>by
  simp only [List.getElem?_cons_zero,sij] at hi
  subst hi
  exact h.1 hg
 | q::r,d,i+1,o,h,hi,hg=>zd7 (d:=d.step q) h.2 (by simpa using hi) hg
theorem step_ok (l:E.P=Tryz.prog) {s N:Nat} {F:Nat->Prop} {b:Int} {d:KV} {o:OpV} (h:zl L s F N b d) (hg:o.gone=true->(d.get o.key).isSome=true/\d.del o.key≠[]) (j:d.length<=900000) :
  XT E 79 [.ptr s 0 2,.agg [.str o.key,.str o.val,.bool o.gone]] L fun r L'=>r=.tup []/\(∃F',zl L' s F' N b (d.step o)/\Grown F F' L L')/\Keep F L L':=by
 obtain ⟨k,v,g⟩:=o
 cases g with
 | false=>exact zfG l h k v j
 | true=>exact zgq l h (hg rfl).1 (hg rfl).2 j
theorem zju (hP:E.P=Tryz.prog) {s N:Nat} {F:Nat->Prop} {b:Int} {d:KV} {l:List OpV} (h:zl L s F N b d) (hg:gok d l) (hN:d.length+l.length<=900000) :
  XT E 78 [.ptr s 0 0,.isl (zB l)] L fun r L'=>r=.tup []/\(∃F',zl L' s F' N b (d.puts l)/\Grown F F' L L')/\Keep F L L':=by
 have M:(zB l).length=l.length:=by simp [zB]
 have lx:lenOf (.isl (zB l))=some l.length:=by show some _=_;rw [M]
 have Q:Rows 3 (zB l)=True:=eq_true fun r hr=>by obtain ⟨o,_,rfl⟩:=List.mem_map.1 hr;rfl
 refine xt2 (fn:=Tryz.f78) (rs:=[]) (c:=q78) hP fun ρ A h1=>?_
 unfold q78
 simp only [h1,zt lx,go_sem]
 refine zC (fun n ρ L1=>∃i:Nat,i<=l.length/\n=l.length - i/\ρ 0=.ptr s 0 0/\ρ 6=.isl (zB l)/\ρ 7=.int .i64 l.length/\ρ 8=.int .i64 i/\∃F',zl L1 s F' N b (d.puts (l.take i))/\Grown F F' L L1/\Keep F L L1)
  ⟨0,Nat.zero_le _,rfl,by simp only [A,go_sem],by simp only [go_sem],by simp only [go_sem],by simp only [go_sem]<;>rfl,F,h,Grown.refl,Keep.refl⟩ ?_
 clear A h1 ρ
 rintro n ρ L1 ⟨i,hi,rfl,A,Z,T,D,F1,j,v,u⟩
 by_cases hc:i<l.length
 ·have e1:((i:Int)<(l.length:Int))=True:=tO
  have e0:((0:Int)<=(i:Int))=True:=tO
  obtain ⟨o,R⟩:∃o,o=l[i]:=⟨_,rfl⟩
  have p:l[i]?=some o:=by rw [R];exact List.getElem?_eq_getElem hc
  have af:o∈l:=List.mem_of_getElem? p
  have O:(zB l)[i]?=some o.row:=by simp [zB,p]
  have X:(zB l).getD i []=[.str o.key,.str o.val,.bool o.gone]:=by rw [List.getD_eq_getElem?_getD,O];simp [OpV.row]
  have V:(i<(zB l).length)=True:=tO
  have B:((i:Int)<((zB l).length:Int))=True:=tO
  have hw:IntKind.i64.wrap ((i:Int)+1)=((i+1:Nat):Int):=wR
  have hp:=j.lt
  obtain ⟨lg,m,FL,FK,keys,sz,cm,hs,_⟩:=id j
  have ls:=zg hs
  simp only [A,Z,T,D,e1,e0,Q,X,V,B,Int.toNat_natCast,go_sem]
  have ae:=d.puts_len (l.take i)
  have J:(l.take i).length=i:=by simp;omega
  refine zh (step_ok (E:=E.noPan) (o:=o) hP (j.keep (G:=none') kP fun _ _ h=>h) (zd7 hg p) od) ?_
  rintro r L2 ⟨rfl,⟨F2,Y,S⟩,w⟩
  simp only [A,Z,T,D,hw,go_sem]
  have U:l.take (i+1)=l.take i++[o]:=by rw [List.take_add_one,p];rfl
  have q:Keep none' L1 (L1++[Blk.cells 3 [[.str o.key,.str o.val,.bool o.gone]]]):=kP
  refine ⟨l.length - (i+1),od,i+1,od,rfl,rfl,F2,by rw [U,KV.puts_snoc];exact Y,fun t U=>?_,?_⟩
  ·rcases S t U with h | ⟨h,h'⟩
   ·rcases v t h with h | h
    ·exact .inl h
    ·right;have:=w.1;have:=q.1;omega
   ·right;have:=u.1;have:=q.1;omega
  ·refine (u.trans q fun _ _ h=>h.elim).trans w fun t J h=>?_
   rcases v t h with h | h
   ·exact h
   ·omega
 ·have e1:((i:Int)<(l.length:Int))=False:=fO
  simp only [T,D,e1,go_sem]
  have I:i=l.length:=by omega
  subst I
  rw [List.take_length] at j
  exact ⟨⟨F1,j,v⟩,u⟩
theorem VT.mono {lg N N':Nat} {F:Nat->Prop} (h:VT L lg F N) (b:N<=N'):VT L lg F N':=by
 obtain ⟨d,h | ⟨sb,rb,k,FD,rows,s0,q,v,m,sz,w,h1,h2,u,p,r,l,s,j⟩⟩:=h
 ·exact ⟨d,.inl h⟩
 ·exact ⟨d,.inr ⟨sb,rb,k,FD,rows,s0,q,v,m,sz,w,h1,h2,u,p,r,Nat.le_trans l b,s.mono b,j⟩⟩
theorem zl.nums {s N:Nat} {F:Nat->Prop} {j:Int} {d:KV} (h:zl L s F N j d):∃r keys mp:IV,∃sz M:Int,L[s]?=some (.cells 6 [[r,.int .i64 j,keys,mp,.int .i64 sz,.int .i64 M]])/\
  ∀(b p:Int),zl (L.set s (.cells 6 [[r,.int .i64 b,keys,mp,.int .i64 sz,.int .i64 p]])) s F N b d:=by
 obtain ⟨lg,m,FL,FK,keys,sz,M,hs,A,u,I,q,l,B,v,rfl⟩:=h
 refine ⟨_,keys,_,sz,M,hs,fun b p=>?_⟩
 have G:Keep (fun t=>t=s) L (L.set s (.cells 6 [[.ptr lg 0 0,.int .i64 b,keys,.mp m,.int .i64 sz,.int .i64 p]])):=Keep.set Keep.refl fun _=>rfl
 have w:¬FK s:=by
  rcases l with ⟨_,_,rfl⟩ | ⟨Q,_,D,_,rfl⟩
  ·exact fun h=>h
  ·exact of_eq_false (zo hs D (by simp))
 refine ⟨lg,m,FL,FK,keys,sz,p,List.getElem?_set_self (zf hs),A.keep G fun t J h=>u (h▸J),u,I,q.keep G ?_,l.keep G fun t J h=>w (h▸J),B,v,rfl⟩
 obtain ⟨R,c,O,_⟩:=q
 exact of_eq_false (zo O hs (by simp))
theorem zl.log {s N:Nat} {F:Nat->Prop} {b:Int} {d:KV} (h:zl L s F N b d):∃lg FL,∃c1 c2 c3 c4 c5:IV,L[s]?=some (.cells 6 [[.ptr lg 0 0,c1,c2,c3,c4,c5]])/\VT L lg FL N/\(∀t,FL t->F t)/\∀L' FL' N',VT L' lg FL' N'->Grown FL FL' L L'->Keep FL L L'->
  ∃F',zl L' s F' N' b d/\Grown F F' L L':=by
 have q:=h.lt
 obtain ⟨lg,m,FL,FK,keys,sz,I,hs,w,u,r,A,j,p,v,rfl⟩:=h
 refine ⟨lg,FL,_,_,_,_,_,hs,w,fun t l=>.inr (.inr (.inr l)),fun L' FL' N' G hg D=>?_⟩
 have B:m<L.length:=q.2.2 m (.inr (.inl rfl))
 refine ⟨fun t=>t=s\/t=m\/FK t\/FL' t,⟨lg,m,FL',FK,keys,sz,I,D.get hs u,G,hg.out q.1 u,hg.out B r,A.keep D r,j.keep D p,fun t l h=>?_,v,rfl⟩,fun t l=>?_⟩
 ·exact hg.out (j.lt t l) (p t l) h
 ·rcases l with h | h | h | h
  ·exact .inl (.inl h)
  ·exact .inl (.inr (.inl h))
  ·exact .inl (.inr (.inr (.inl h)))
  ·rcases hg t h with h | h
   ·exact .inl (.inr (.inr (.inr h)))
   ·exact .inr h
theorem z3R (u:E.P=Tryz.prog) {s N ob:Nat} {F:Nat->Prop} {j:Int} {d:KV} {l:List OpV} (h:zl L s F N j d) (m:L[ob]?=some (.cells 3 (zB l))) (hF:¬F ob) (M:l≠[]) (Q:l.length<=100000) (ho:∀o∈l,o.fit) (hg:gok d l) (hb:(yI l).length<=1048512)
  (hN:d.length+l.length<=900000) (ay:N+(yI l).length+300<=1099511627776) :
  XT E 89 [.ptr s 0 0,.int .i64 j,.sl ob 0 l.length l.length] L fun r L'=>r=.int .i64 0/\(∃F',zl L' s F' (N+(yI l).length+300) j (d.puts l)/\Grown F F' L L')/\Keep F L L':=by
 have Z:=h.lt
 have I:∀o∈l,o.ok:=fun o h=>(ho o h).ok
 have ai:=List.length_pos_iff.2 M
 have e0:((l.length:Int)=0)=False:=fO
 obtain ⟨lg,FL,c1,c2,c3,c4,c5,hs,B,J,U⟩:=h.log
 obtain ⟨_,_,_,_,_,p,_⟩:=h.nums
 have ae:c1=.int .i64 j:=by
  rw [hs] at p;simp at p;exact p.2.1
 subst ae
 clear p
 have ls:=zg hs
 refine xt3 (fn:=Tryz.f89) (rs:=[.tmp 6]) (c:=q89) u fun ρ S h1 h2=>?_
 unfold q89
 simp only [S,h1,h2,hs,go_sem]
 refine zh (z5D (E:=E.noPan) u m Q ho) ?_
 rintro r L1 ⟨rfl,rfl⟩
 simp only [h2,go_sem]
 refine zh (zdM (E:=E.noPan) u m Q I hb) ?_
 rintro r L2 ⟨rfl,rfl⟩
 simp only [h2,e0,go_sem]
 refine zh (zd9 (E:=E.noPan) u m Q I) ?_
 rintro r L3 ⟨rfl,rfl⟩
 simp only [S,hs,go_sem]
 have O:zA (yI l):=by
  unfold yI
  refine (zO _).app ?_
  intro r b
  obtain ⟨o,_,b⟩:=List.mem_flatMap.1 b
  unfold OpV.bytes at b
  have R:∀t,zA (zH t):=fun t=>(zO _).app (Zm t)
  rcases List.mem_append.1 b with b | b
  ·exact R _ r b
  ·split at b
   ·simp at b;exact ⟨_,b⟩
   ·rcases List.mem_append.1 b with b | b
    ·simp at b;exact ⟨_,b⟩
    ·exact R _ r b
 refine zY (E:=E.noPan) (args':=[.int .u8 111,.isl (yI l)]) rfl (Jm (E:=E.noPan) u O (by simp [yI,zL]) od) (fun _=>rfl) ?_
 simp only [go_sem]
 refine zh (z0v (E:=E.noPan) u B (rs:=[.int .u8 111]::yI l) (fun r b=>by rcases List.mem_cons.1 b with rfl | b;exact ⟨_,rfl⟩;exact O r b) (by simp) (by simp;omega) (by simp;omega)) ?_
 rintro r L4 ⟨⟨n,rfl⟩,⟨FL',v,T⟩,q⟩
 simp only [S,h2,go_sem]
 obtain ⟨F4,af,w⟩:=U L4 FL' (N+(yI l).length+300) (v.mono (by simp;omega)) T q
 have G:=q.get m fun h=>hF (J _ h)
 refine zh (z5c (E:=E.noPan) u G Q M) ?_
 rintro r L5 ⟨rfl,rfl⟩
 simp only [go_sem]
 refine zh (zju (E:=E.noPan) u af hg hN) ?_
 rintro r L6 ⟨rfl,⟨F6,Y,ag⟩,D⟩
 obtain ⟨ak,V,ax,aj,az,A,ah⟩:=Y.nums
 have au:=zg A
 simp only [S,A,go_sem]
 have X:Keep F L3 L5:=q.mono fun t _ h=>J t h
 refine ⟨⟨F6,ah _ _,fun t R=>?_⟩,?_⟩
 ·rcases ag t R with h | ⟨h,h'⟩
  ·rcases w t h with h | ⟨h,h'⟩
   ·exact .inl h
   ·right;rw [lls];have:=D.1;omega
  ·right;rw [lls];have:=q.1;omega
 ·refine Keep.set (X.trans D fun t bf h=>?_) fun _=>Z.2.1
  rcases w t h with h | h
  ·exact h
  ·omega
theorem zc2 (O:E.P=Tryz.prog) {s N n:Nat} {F:Nat->Prop} {b:Int} {d:KV} (h:zl L s F N b d) (hf:b<(n:Int)) (X:n<=4503599627370496) (T:N+300<=1099511627776) :
  XT E 156 [.ptr s 0 0,.int .i64 n] L fun r L'=>r=.int .i64 0/\(∃F',zl L' s F' (N+300) n d/\Grown F F' L L')/\Keep F L L':=by
 have B:=h.lt
 have e0:((n:Int)<=b)=False:=fO
 have e1:((4503599627370496:Int)<(n:Int))=False:=fO
 obtain ⟨lg,FL,c1,c2,c3,c4,c5,hs,q,w,J⟩:=h.log
 obtain ⟨_,_,_,_,_,j,_⟩:=h.nums
 have M:c1=.int .i64 b:=by
  rw [hs] at j;simp at j;exact j.2.1
 subst M
 clear j
 have ls:=zg hs
 refine xt2 (fn:=Tryz.f156) (rs:=[.tmp 4]) (c:=zjR) O fun ρ R h1=>?_
 unfold zjR
 simp only [R,h1,hs,e0,e1,go_sem]
 refine zY (E:=E.noPan) (args':=[.int .u8 102,.int .i64 n]) rfl (z5w (E:=E.noPan) O X) (fun _=>rfl) ?_
 simp only [go_sem]
 have U:=zM n
 have Y:=Zj (n:=n) (k:=7) od
 refine zh (z0v (E:=E.noPan) O q (rs:=[.int .u8 102]::zL n) (fun r A=>by rcases List.mem_cons.1 A with rfl | A;exact ⟨_,rfl⟩;exact zO n r A) (by simp) (by simp;omega) (by simp;omega)) ?_
 rintro r L4 ⟨⟨n',rfl⟩,⟨FL',l,D⟩,m⟩
 obtain ⟨F4,v,G⟩:=J L4 FL' (N+300) (l.mono (by simp;omega)) D m
 obtain ⟨Z,Q,S,ae,V,p,I⟩:=v.nums
 have u:=zg p
 simp only [R,h1,p,u,go_sem]
 simp only [List.set_set]
 refine ⟨⟨F4,I _ _,fun t ht=>?_⟩,?_⟩
 ·rcases G t ht with h | ⟨h,h'⟩
  ·exact .inl h
  ·right;rw [lls];omega
 ·exact Keep.set (m.mono fun t _ h=>w t h) fun _=>B.2.1
def q20 : XC :=(sO [oO 4 (.mov oz),oI 5 0] (sO [oM 21 0,oM 22 1,oC 23 73 [.t 21,.t 22],oM 20 23,oX 24 0 20,oX 25 1 20,oM 6 24,oM 7 25] (.seq (sO [oM 26 7,oK 27 .neq 26 0] (cT 27 (sO [oM 28 7,oO 4 (.mov oz),oM 5 28] .ret) .skip)) (sO [oM 29 6,oC 30 74 [],oO 31 (.build [(.raw (.pointer none)),(.int .i64 0),.nsl,(.raw (.map none)),(.int .i64 0),(.int .i64 0)] [(0,(1,(.t 29))),(2,(3,(.t 30)))]),oO 32 (.box (.t 31)),oO 8 (.alloc [(.raw (.pointer none))]),oS 8 32] (sO [oO 9 (.alloc [.nsl,(.raw (.map none)),(.int .i64 0)])] (.seq (sO [oM 33 6,oC 34 75 [.t 33]] (.block 0 (.rngF (.t 34) 94 [35,36] (.ops [oM 11 36]) (.block 1 (.seq (sO [oM 37 11,oY 38 37,oK 39 .eql 38 0] (cT 39 (.exit 1) .skip)) (sO [oM 41 11,oO 42 (.slice 1 (.t 41) (some (oi 1)) none),oC 43 76 [.t 42],oM 40 43,oX 44 0 40,oX 45 1 40,oX 46 2 40,oM 12 44,oM 13 45,oM 14 46] (sO [oM 48 11,oO 49 (.slice 1 (.t 48) (some (oi 1)) none),oC 50 77 [.t 49],oM 47 50,oX 51 0 47,oX 52 1 47,oX 53 2 47,oM 15 51,oM 16 52,oM 17 53] (sO [oM 54 11,oO 55 (.idxS 1 (.t 54) (oi 0)),oL 56 55] (.block 2 (sO [oO 58 (.bin .eql (.t 56) (.c (.int .u8 111))),oM 57 58] (cT 57 (.ops [oL 59 8,oM 60 12,oC 61 78 [.t 59,.t 60]]) (sO [oO 63 (.bin .eql (.t 56) (.c (.int .u8 102))),oM 62 63] (cT 62 (.ops [oL 64 8,oM 65 15,oN 66 64,oF 67 1 66,oS 67 65]) (sO [oO 69 (.bin .eql (.t 56) (.c (.int .u8 98))),oM 68 69] (cT 68 (.ops [oC 70 74 [],oU (.store 3 (.t 9) (.t 70))]) (sO [oO 72 (.bin .eql (.t 56) (.c (.int .u8 112))),oM 71 72] (cT 71 (sO [oM 73 12,oY 74 73,oI 75 0] (.block 3 (.loop (sO [oB 76 .lss 75 74] (.seq (cT 76 .skip (.exit 3)) (.seq (.block 4 (sO [oO 77 (.idxS 3 (.t 73) (.t 75)),oO 78 (.loadN 3 (.t 77)),oO 19 (.alloc [(.str []),(.str []),(.bool false)]),oU (.store 3 (.t 19) (.t 78))] (.ops [oO 79 (.loadN 3 (.t 19)),oC 80 79 [.t 9,.t 79]]))) (.ops [oK 81 .add 75 1,oM 75 81]))))))) (sO [oO 83 (.bin .eql (.t 56) (.c (.int .u8 101))),oM 82 83] (cT 82 (.drawR [(oL 84 8,([],false)),(oL 85 8,([],true)),(oM 86 15,([],false)),(oO 87 (.loadN 3 (.t 9)),([],false)),(oQ 88 74 [],([],false)),(oN 89 84,([],false)),(oF 90 1 89,([],false)),(oS 90 86,([1],false)),(oN 91 85,([],false)),(oF 92 2 91,([],false)),(oU (.store 3 (.t 92) (.t 87)),([],false)),(oU (.store 3 (.t 9) (.t 88)),([],false))]) .skip))))))))))))))))))) (sO [oL 93 8,oM 4 93,oI 5 0] .ret)))))))
def q74 : XC :=(sO [oO 0 (.alloc [.nsl,(.raw (.map none)),(.int .i64 0)])] (sO [oO 1 (.ex .mmake []),oO 2 (.build [.nsl,(.raw (.map none)),(.int .i64 0)] [(1,(1,(.t 1)))]),oU (.store 3 (.t 0) (.t 2))] .ret))
def q75 : XC :=(sO [oO 1 (.box (.t 0)),oV 2 (.raw .nilFunc)] (sO [oO 3 (.mkfn (.func 142) [] [.t 1]),oM 2 3] .ret))
def zlf : XC :=(.seq (.drawE [oL 7 1,oN 8 7,oF 9 3 8,oL 10 9,oL 11 1,oN 12 11,oF 13 4 12,oL 14 13,oQ 15 143 [.t 14],oM 3 10,oM 4 15]) (sO [oM 16 4,oY 17 16,oI 18 0] (.block 0 (.loop (sO [oB 19 .lss 18 17] (.seq (cT 19 .skip (.exit 0)) (.seq (.block 1 (sO [oM 20 18,oO 21 (.idxS 1 (.t 16) (.t 18)),oL 22 21,oM 5 20,oM 6 22] (sO [oM 23 0,oM 24 3,oM 25 5,oB 26 .add 24 25,oM 27 6,oC 28 144 [.t 27],oO 29 (.call (.t 23) [.t 26,.t 28]),oO 30 (.un .not (.t 29))] (cT 30 .ret .skip)))) (.ops [oK 31 .add 18 1,oM 18 31]))))))))
def zkj : XC :=(sO [oV 2 .nsl] (.seq (sO [oM 3 0,oO 4 (.isNil 0 false (.t 3))] (cT 4 (sO [oV 2 .nsl] .ret) .skip)) (sO [oO 5 (.bslice 1 [.nsl] 0 []),oM 6 0,oO 7 (.append 1 24 (.t 5) (.t 6)),oM 2 7] .ret)))
theorem YX {sz b t n:Nat} {x:IV} {rows:List (List IV)} {KV:IV->List Blk->Prop} (h:L[t]?=some (.cells sz rows)) (l:rows.length=n) (d:rowsOf L x=some []) (j:KV (.sl t 0 n n) L):xop E (.append sz b (.c (.sl t 0 n n)) (.c x)) cev L KV:=by
 subst l
 show ZQ sz b (.sl t 0 _ _) x L KV
 unfold ZQ
 simp only [d,h]
 refine ⟨(fun r d=>nomatch d),trivial,od,?_⟩
 rw [if_pos (by simp)]
 have e1:splice rows (0+rows.length) []=rows:=by simp [splice]
 rw [e1,vg h]
 exact j
theorem z4h (b:E.P=Tryz.prog):zD E 143 [.isl []] (.isl []):=by
 refine xu1 (fn:=Tryz.f143) (c:=zkj) (t:=2) b fun ρ d=>?_
 unfold zkj
 simp only [d,go_sem]
 refine ⟨?_,fun _=>rfl⟩
 refine YX (rows:=[]) rfl rfl rfl ?_
 simp only [go_sem]
 rfl
theorem zcN (h:E.P=Tryz.prog):XT E 74 [] L fun r L'=>∃b,r=.agg [.nsl,.mp (L++[b]).length,.int .i64 0]/\L'=L++[b]++[.map [] 0]:=by
 refine zI (n:=Tryz.f74.ntmps) (rs:=[.cellN 0 3]) (c:=q74) (by rw [h];rfl) (by rw [h];kernel_rfl) (by decide) (by decide) ?_
 generalize d:entry _=ρ
 clear d
 unfold q74
 simp (maxDischargeDepth:=12) only [Y6,Zk,ZJ,go_sem]
 refine ⟨rfl,.cells 3 [[.nsl,.mp (L++[Blk.cells 3 [[IV.nsl,IV.raw (Value.map none),IV.int .i64 0]]]).length,.int .i64 0]],by simp [VJ],?_⟩
 rw [List.append_assoc,List.set_append_right _ _ (Nat.le_refl _),Nat.sub_self]
 simp
theorem zeF (j:E.P=Tryz.prog) {y b lg:Nat} {c0 c1 c2 c3 c5 c6:IV} (h:L[b]?=some (.cells 1 [[.ptr lg 0 0]])) (d:L[lg]?=some (.cells 7 [[c0,c1,c2,c3,.nsl,c5,c6]])):XT E 142 [.yld y,.ptr b 0 0] L fun r L'=>r=.tup []/\L'=L:=by
 have p:=zg h
 have m:=zg d
 refine xt2 (fn:=Tryz.f142) (rs:=[]) (c:=zlf) j fun ρ q h1=>?_
 unfold zlf
 simp only [h1,h,d,go_sem]
 refine zY (E:=E.noPan) (args':=[.isl []]) rfl (z4h (E:=E.noPan) j) (fun _=>rfl) ?_
 have l:lenOf (.isl [])=some 0:=rfl
 simp only [zt l,go_sem]
 refine y7 ?_
 simp only [go_sem]
theorem zgF (b:E.P=Tryz.prog) {lg:Nat}:XT E 75 [.ptr lg 0 0] L fun r L'=>r=.fn (.func 142) [] [.ptr L.length 0 0]/\L'=L++[.cells 1 [[.ptr lg 0 0]]]:=by
 refine xt1 (fn:=Tryz.f75) (rs:=[.tmp 2]) (c:=q75) b fun ρ d=>?_
 unfold q75
 simp only [d,go_sem]
theorem z9W (G:E.P=Tryz.prog) {d m:Nat} {o st:Int} (S:L[d]?=some (vK m o st)) (R:L[m]?=some (.map [] 0)):XT E 20 [.ptr d 0 0,.int .i64 0] L fun r L'=>
  ∃s,r=.tup [.ptr s 0 0,.int .i64 0]/\(∃F',zl L' s F' 0 0 []/\Grown (fun t=>t=d\/t=m) F' L L')/\L.length<=s/\Keep none' L L':=by
 have ld:=zg S
 have lm:=zg R
 refine xt2 (fn:=Tryz.f20) (rs:=[.tmp 4,.tmp 5]) (c:=q20) G fun ρ h0 h1=>?_
 unfold q20
 simp (maxDischargeDepth:=12) only [h0,h1,go_sem]
 refine zh (zeL (E:=E.noPan) G S R) ?_
 rintro r L1 ⟨lg,rfl,V,j,I⟩
 simp (maxDischargeDepth:=12) only [go_sem]
 refine zh (zcN (E:=E.noPan) G) ?_
 rintro r L2 ⟨b,rfl,rfl⟩
 have ax:=zg j
 simp (maxDischargeDepth:=12) only [go_sem]
 obtain ⟨s,hs⟩:∃s,(L1++[b]++[Blk.map [] 0]).length=s:=⟨_,rfl⟩
 obtain ⟨p,u⟩:∃p,(L1++[b]).length=p:=⟨_,rfl⟩
 rw [hs,u]
 obtain ⟨L3,l⟩:∃L3,L1++[b]++[Blk.map [] 0]++[Blk.cells 6 [[.ptr lg 0 0,.int .i64 0,.nsl,.mp p,.int .i64 0,.int .i64 0]]]++[Blk.cells 1 [[.ptr s 0 0]]]++[Blk.cells 3 [[.nsl,.raw (Value.map none),.int .i64 0]]]=L3:=⟨_,rfl⟩
 have O:Keep none' L1 L3:=by rw [<-l];exact kP
 have B:L3[s]?=some (.cells 6 [[.ptr lg 0 0,.int .i64 0,.nsl,.mp p,.int .i64 0,.int .i64 0]]):=by rw [<-l,<-hs];simp (maxDischargeDepth:=12) only [go_sem]<;>rfl
 have J:L3[p]?=some (.map [] 0):=by rw [<-l,<-u];simp (maxDischargeDepth:=12) only [go_sem]<;>rfl
 obtain ⟨Q,M⟩:∃Q,(L1++[b]++[Blk.map [] 0]++[Blk.cells 6 [[IV.ptr lg 0 0,.int .i64 0,.nsl,.mp p,.int .i64 0,.int .i64 0]]]).length=Q:=⟨_,rfl⟩
 have w:L3[Q]?=some (.cells 1 [[.ptr s 0 0]]):=by rw [<-l,<-M];simp (maxDischargeDepth:=12) only [go_sem]<;>rfl
 rw [M,l]
 have v:=O.get j fun h=>h
 have ah:=zg B
 have T:=zg w
 have Z:L1.length<=s:=by rw [<-hs];simp only [lla,llc,lln];omega
 have ai:L1.length<=p:=by rw [<-u];simp only [lla,llc,lln];omega
 have aj:¬s=p:=by rw [<-hs,<-u];simp
 refine zh (zgF (E:=E.noPan) G (lg:=lg)) ?_
 rintro r L4 ⟨rfl,rfl⟩
 simp (maxDischargeDepth:=12) only [go_sem]
 refine z5X (gf:=142) (caps:=[.ptr L3.length 0 0]) (by simp (maxDischargeDepth:=12) only [go_sem]) ?_
 intro r0 a1 a2 a3
 refine (zeF (E:=E.noPan) G (lg:=lg) (b:=L3.length) (c0:=.ptr d 0 0) (c1:=.int .i64 0) (c2:=.nsl) (c3:=.int .i64 0) (c5:=.bool false) (c6:=.bool false) (by simp (maxDischargeDepth:=12) only [go_sem]<;>rfl) (by simp (maxDischargeDepth:=12) only [zg v,v,go_sem])).mono ?_
 rintro r L5 ⟨rfl,rfl⟩
 refine ⟨r0,by simp (maxDischargeDepth:=12) only [go_sem]<;>rfl,by rw [a1];decide,?_⟩
 rw [a2]
 have n8:((L3++[Blk.cells 1 [[IV.ptr lg 0 0]]]).length=Q)=False:=eq_false (by have:=zf w;simp only [lla,llc,lln];omega)
 simp (maxDischargeDepth:=12) only [w,T,go_sem]
 have q:Keep none' L3 (L3++[Blk.cells 1 [[IV.ptr lg 0 0]]]++[Blk.dead]):=Keep.app (Keep.app Keep.refl)
 have A:=O.trans (F:=none') q fun _ _ h=>h
 have D:=I.trans (F:=none') A fun _ _ h=>h
 have U:=zf j
 have ae:=zf S
 have X:=zf R
 have ak:=I.1
 have ag:=zf B
 have Y:=zf J
 have au:L3.length<=(L3++[Blk.cells 1 [[IV.ptr lg 0 0]]]++[Blk.dead]).length:=q.1
 have af:L1.length<=(L3++[Blk.cells 1 [[IV.ptr lg 0 0]]]++[Blk.dead]).length:=A.1
 refine ⟨s,rfl,⟨fun t=>t=s\/t=p\/none' t\/(t=lg\/t=d\/t=m),⟨lg,p,fun t=>t=lg\/t=d\/t=m,none',.nsl,0,0,q.get B fun h=>h,⟨d,.inl ⟨m,o,st,A.get j fun h=>h,D.get S fun h=>h,D.get R fun h=>h,rfl⟩⟩,od,od,
  ⟨[],0,q.get J fun h=>h,⟨fun e he=>(nomatch he),List.nodup_nil⟩,fun k=>rfl⟩,.inl ⟨rfl,rfl,rfl⟩,fun t h=>h.elim,List.Pairwise.nil,rfl⟩,?_⟩,od,D⟩
 rintro t (rfl | rfl | h | rfl | rfl | rfl)
 ·right;omega
 ·right;omega
 ·exact h.elim
 ·right;omega
 ·exact .inl (.inl rfl)
 ·exact .inl (.inr rfl)
def q91 : XC :=(sO [oO 3 (.box (.t 0)),oO 4 (.box (.t 1)),oO 5 (.box (.t 2)),oV 6 (.raw .nilFunc)] (sO [oO 7 (.mkfn (.func 169) [] [.t 3,.t 4,.t 5]),oM 6 7] .ret))
def ze0 : XC :=(sO [oM 54 7,oY 55 54,oI 56 0] (.block 2 (.loop (sO [oB 57 .lss 56 55] (.seq (cT 57 .skip (.exit 2)) (.seq (.block 3 (sO [oO 58 (.idxS 2 (.t 54) (.t 56)),oO 59 (.loadN 2 (.t 58)),oO 11 (.alloc [(.str []),(.str [])]),oU (.store 2 (.t 11) (.t 59))] (sO [oM 60 0,oF 61 0 11,oL 62 61,oF 63 1 11,oL 64 63,oO 65 (.call (.t 60) [.t 62,.t 64]),oO 66 (.un .not (.t 65))] (cT 66 .ret .skip)))) (.ops [oK 67 .add 56 1,oM 56 67])))))))
def ziX : XC :=(.seq (.drawE [oL 13 1,oN 14 13,oF 15 2 14,oF 16 0 15,oL 17 16,oL 18 2,oQ 19 151 [.t 17,.t 18],oM 12 19,oX 20 0 12,oX 21 1 12,oM 5 20,oM 6 21]) (sO [oV 7 .nsl] (.seq (sO [oL 22 1,oN 23 22,oF 24 2 23,oF 25 0 24,oL 26 25,oM 27 5,oO 28 (.slice 1 (.t 26) (some (.t 27)) none),oY 29 28,oI 30 0] (.block 0 (.loop (sO [oB 31 .lss 30 29] (.seq (cT 31 .skip (.exit 0)) (.seq (.block 1 (sO [oO 32 (.idxS 1 (.t 28) (.t 30)),oL 33 32,oM 9 33] (.seq (sO [oL 34 3,oO 35 (.bin .neq (.t 34) (.c (.str []))),oM 36 35,oG 37 36 true (.mov (.t 9)),oG 38 36 true (.load1 (.t 3)),oG 39 36 true (.bin .geq (.t 37) (.t 38)),oO 40 (.pick (.t 36) (.t 39) (.c (.bool false)))] (cT 40 (.exit 0) .skip)) (.ops [oM 41 7,oM 42 9,oL 43 1,oN 44 43,oF 45 2 44,oF 46 1 45,oL 47 46,oM 48 9,oO 49 (.ex (.mlook true (.str []) false) [.t 47,.t 48]),oO 50 (.build [(.str []),(.str [])] [(0,(1,(.t 42))),(1,(1,(.t 49)))]),oO 51 (.bslice 2 [(.str []),(.str [])] 1 [(0,(.t 50))]),oO 52 (.append 2 32 (.t 41) (.t 51)),oM 7 52])))) (.ops [oK 53 .add 30 1,oM 30 53]))))))) ze0)))
theorem _root_.Go.X.KV.get_mem:∀(d:KV) (p:List UInt8 × List UInt8),d.sorted->p∈d->d.get p.1=some p.2
 | [],_,_,h=>nomatch h
 | q::r,p,hs,h=>by
  have b:=List.pairwise_cons.1 hs
  unfold KV.get
  rcases List.mem_cons.1 h with rfl | h
  ·rw [if_pos rfl]
  ·have h1:=b.1 p h
   have j:q.1≠p.1:=fun h2=>by rw [h2,YY] at h1;cases h1
   rw [if_neg j]
   exact KV.get_mem r p b.2 h
def inTo (to:List UInt8) (k:List UInt8):Bool:=decide (to=[])||Op.bytesLess k to
def _root_.Go.X.KV.scan (d:KV) (fr to:List UInt8):KV:=(d.drop (d.rank fr)).takeWhile fun p=>inTo to p.1
def ZT (d:KV):List (List IV):=d.map fun p=>[.str p.1,.str p.2]
theorem WM (d:KV):(ZT d).length=d.length:=by simp [ZT]
def YC (L0 L:List Blk) (v:IV) (d:KV):Prop:=(v=.nsl/\d=[])\/∃rb,v=.sl rb 0 d.length d.length/\L[rb]?=some (.cells 2 (ZT d))/\L0.length<=rb/\d≠[]
theorem YC.len {L0:List Blk} {v:IV} {d:KV} (h:YC L0 L v d):lenOf v=some d.length:=by
 rcases h with ⟨rfl,rfl⟩ | ⟨rb,rfl,_⟩<;>rfl
theorem Y0 {P:(List UInt8 × List UInt8)->Bool}:∀(l:KV) (j:Nat),(∀(i:Nat) (p:List UInt8 × List UInt8),i<j->l[i]?=some p->P p=true)->(∀p,l[j]?=some p->P p=false)->j<=l.length->l.takeWhile P=l.take j
 | [],j,_,_,h=>by simp
 | p::r,0,_,h,_=>by
  have:=h p rfl
  simp [List.takeWhile,this]
 | p::r,j+1,h1,h2,h3=>by
  have d:=h1 0 p od rfl
  rw [List.takeWhile_cons,if_pos d,List.take_succ_cons,Y0 r j (fun i q hi b=>h1 (i+1) q od (by simpa using b)) (fun q b=>h2 q (by simpa using b)) (by simpa using h3)]
@[go_sem] theorem zgj9 {a b:List UInt8} {KV':IV->List Blk->Prop}:xop E (.bin .geq (.c (.str a)) (.c (.str b))) cev L KV'=KV' (.bool (!Op.bytesLess a b)) L:=nr rfl
@[go_sem] theorem zhK {m:Nat} {k:IntKind} {KV':IV->List Blk->Prop}:xop E (.slice m (.c .nsl) (some (.c (.int k 0))) none) cev L KV'=KV' .nsl L:=by
 simp [xop,Z9,bnd]
theorem z3h {L1:List Blk} {v:IV} {ps:KV} {p:List UInt8 × List UInt8} {KV':IV->List Blk->Prop} (h:YC L L1 v ps) (A:Keep none' L L1) (B:ps.length<=1000000) (m:∀(w:IV) (M:List Blk),Keep none' L M->YC L M w (ps++[p])->KV' w M) :
  xop E (.append 2 32 (.c v) (.c (.sl L1.length 0 1 1))) cev (L1++[.cells 2 [[.str p.1,.str p.2]]]) KV':=by
 have b:yz 2 [[IV.str p.1,IV.str p.2]]:=fun r l=>by simp at l;subst l;exact ⟨rfl,rfl⟩
 have q:rowsOf (L1++[Blk.cells 2 [[IV.str p.1,IV.str p.2]]]) (.sl L1.length 0 1 1)=some [[.str p.1,.str p.2]]:=Zd (sz:=2) (by simp) rfl
 have d:Keep none' L (L1++[Blk.cells 2 [[IV.str p.1,IV.str p.2]]]):=Keep.app A
 rcases h with ⟨rfl,rfl⟩ | ⟨rb,rfl,j,s,u⟩
 ·refine Yo q b (by simp) (by simp) (m _ _ (Keep.app d) (.inr ⟨_,rfl,?_,d.1,by simp⟩))
  simp [ZT]
 ·refine yh (Zz j) (WM ps) q b (by simp) (by simp;omega) (m _ _ (Keep.app (Keep.set d fun h=>by omega)) (.inr ⟨(L1++[Blk.cells 2 [[IV.str p.1,IV.str p.2]]]).length,by simp,?_,d.1,by simp⟩))
  have e1:((L1++[Blk.cells 2 [[IV.str p.1,IV.str p.2]]]).set rb .dead).length=(L1++[Blk.cells 2 [[IV.str p.1,IV.str p.2]]]).length:=lls
  rw [<-e1,List.getElem?_append_right (Nat.le_refl _),Nat.sub_self]
  simp [ZT]
theorem zaZ (hP:E.P=Tryz.prog) {b1 b2 b3 s N:Nat} {y:IV} {F:Nat->Prop} {Z:Int} {d:KV} {l to:List UInt8} (S:L[b1]?=some (.cells 1 [[.ptr s 0 0]])) (az:L[b2]?=some (.cells 1 [[.str l]])) (ax:L[b3]?=some (.cells 1 [[.str to]])) (h:zl L s F N Z d) (hN:d.length<=900000)
  {KX:XE->Rho->List Blk->Prop} (X:ρ 0=y) (h1:ρ 1=.ptr b1 0 0) (h2:ρ 2=.ptr b2 0 0) (V:ρ 3=.ptr b3 0 0) (hK:∀(ρ':Rho) (L':List Blk),ρ' 0=y->Keep none' L L'->YC L L' (ρ' 7) (d.scan l to)->Zg E ze0 ρ' L' KX):Zg E ziX ρ L KX:=by
 obtain ⟨lg,m,FL,FK,keys,sz,cm,hs,bz,dw,gp,⟨es,c,hm,bg,bf⟩,I,dn,U,gm⟩:=id h
 have gq:=zg S
 have di:=zg az
 have ig:=zg ax
 have ls:=zg hs
 have lm:=zg hm
 unfold ziX
 simp only [h1,h2,S,az,hs,go_sem]
 refine vF (E:=E) hP I U hN ?_
 simp only [h1,S,hs,go_sem]
 rcases I with ⟨rfl,rfl,_⟩ | ⟨kb,rfl,ae,ik,_⟩
 ·simp only [KV.rank,go_sem]
  refine y7 ?_
  simp only [go_sem]
  exact hK _ _ (by simp only [X,go_sem]) Keep.refl (.inl ⟨by simp only [go_sem],rfl⟩)
 ·have bn:d.keys.length=d.length:=by simp [KV.keys]
  have gy:=d.rank_le l
  have dh:=zg ae
  have e0:((0:Int)<=(d.rank l:Int))=True:=tO
  have e1:(d.rank l<=d.keys.length)=True:=tO
  rw [bn] at *
  simp only [ae,Yk,e0,e1,Int.toNat_natCast,Nat.le_refl,Nat.zero_add,go_sem]
  have ed:(d.drop (d.rank l)).length=d.length - d.rank l:=by simp
  refine zC (fun n' ρ L1=>∃j:Nat,j<=d.length - d.rank l/\n'=d.length - d.rank l - j/\Keep none' L L1/\ρ 0=y/\ρ 1=.ptr b1 0 0/\ρ 3=.ptr b3 0 0/\ρ 28=.sl kb (d.rank l) (d.length - d.rank l) (d.length - d.rank l)/\ρ 29=.int .i64 (d.length - d.rank l:Nat)/\ρ 30=.int .i64 j/\
   YC L L1 (ρ 7) ((d.drop (d.rank l)).take j)/\∀(q:Nat) (p:List UInt8 × List UInt8),q<j->(d.drop (d.rank l))[q]?=some p->inTo to p.1=true)
   ⟨0,Nat.zero_le _,rfl,Keep.refl,by simp only [X,go_sem],by simp only [h1,go_sem],by simp only [V,go_sem],by simp only [go_sem],by simp only [go_sem]<;>rfl,by simp only [go_sem]<;>rfl,.inl ⟨by simp only [go_sem],rfl⟩,fun q p hq=>by omega⟩ ?_
  clear X h1 h2 V
  rintro n' ρ L1 ⟨j,hj,rfl,v,X,h1,V,R,G,D,h7,ai⟩
  have B:=v.get ae fun h=>h
  have Q:=v.get S fun h=>h
  have A:=v.get ax fun h=>h
  have Y:=v.get hs fun h=>h
  have ag:=v.get hm fun h=>h
  have df:=zg B
  have bu:=zg Q
  have cu:=zg A
  have dm:=zg Y
  have gu:=zg ag
  by_cases hc:j<d.length - d.rank l
  ·have f1:((j:Int)<((d.length - d.rank l:Nat):Int))=True:=tO
   have f0:((0:Int)<=(j:Int))=True:=tO
   obtain ⟨p,hp⟩:∃p,(d.drop (d.rank l))[j]?=some p:=⟨_,List.getElem?_eq_getElem od⟩
   have ay:d[d.rank l+j]?=some p:=by rw [List.getElem?_drop] at hp;exact hp
   have ak:(yA d.keys)[d.rank l+j]?=some [.str p.1]:=by simp [yA,KV.keys,ay]
   have ah:(yA d.keys).getD (d.rank l+j) []=[.str p.1]:=by rw [List.getD_eq_getElem?_getD,ak];rfl
   have O:(d.rank l+j<(yA d.keys).length)=True:=eq_true (zf ak)
   have bi:p∈d:=List.mem_of_getElem? ay
   have hg:=bf p.1
   rw [d.get_mem p U bi] at hg
   obtain ⟨i,b,hf,hi⟩:=z0c bg.1 hg 0
   rw [Nat.zero_add] at hf
   have au:es.getD i default=(.str p.1,.str p.2,b):=by rw [List.getD_eq_getElem?_getD,hi];rfl
   have hw:IntKind.i64.wrap ((j:Int)+1)=((j+1:Nat):Int):=wR
   cases hin:inTo to p.1 with
   | false=>
    have r:¬to=[]:=fun h=>by simp [inTo,h] at hin
    have J:Op.bytesLess p.1 to=false:=by
     simp only [inTo,r,decide_false,Bool.false_or] at hin
     exact hin
    have f2:(to=[])=False:=eq_false r
    simp only [V,R,G,D,B,A,Yk,f0,f1,f2,ah,O,J,Int.toNat_natCast,Nat.zero_add,go_sem]
    refine hK _ _ (by simp only [X,go_sem]) v ?_
    have e5:d.scan l to=(d.drop (d.rank l)).take j:=Y0 _ j ai (fun p' u=>by rw [hp] at u;cases u;exact hin) od
    rw [e5]
    simp only [go_sem]
    exact h7
   | true=>
    have ht:(d.drop (d.rank l)).take (j+1)=(d.drop (d.rank l)).take j++[p]:=by rw [List.take_add_one,hp];rfl
    have eu:((d.drop (d.rank l)).take j).length=j:=by simp;omega
    have T:∀(q:Nat) (p':List UInt8 × List UInt8),q<j+1->(d.drop (d.rank l))[q]?=some p'->inTo to p'.1=true:=fun q p' hq u=>by
     by_cases hqj:q<j
     ·exact ai q p' hqj u
     ·have:q=j:=by omega
      subst this
      rw [hp] at u;cases u;exact hin
    by_cases r:to=[]
    ·have f2:(to=[])=True:=eq_true r
     simp only [h1,V,R,G,D,B,Q,A,Y,ag,Yk,f0,f1,f2,ah,O,hf,au,z0A,Wi,wK,isKey,Int.toNat_natCast,Nat.zero_add,go_sem]
     refine z3h (p:=p) h7 v od ?_
     intro w M aj af
     simp only [X,h1,V,R,G,D,hw,go_sem]
     exact ⟨d.length - d.rank l - (j+1),od,j+1,od,rfl,aj,rfl,by rw [ht];exact af,T⟩
    ·have f2:(to=[])=False:=eq_false r
     have J:Op.bytesLess p.1 to=true:=by
      simp only [inTo,r,decide_false,Bool.false_or] at hin
      exact hin
     simp only [h1,V,R,G,D,B,Q,A,Y,ag,Yk,f0,f1,f2,J,ah,O,hf,au,z0A,Wi,wK,isKey,Int.toNat_natCast,Nat.zero_add,go_sem]
     refine z3h (p:=p) h7 v od ?_
     intro w M aj af
     simp only [X,h1,V,R,G,D,hw,go_sem]
     exact ⟨d.length - d.rank l - (j+1),od,j+1,od,rfl,aj,rfl,by rw [ht];exact af,T⟩
  ·have f1:((j:Int)<((d.length - d.rank l:Nat):Int))=False:=fO
   simp only [G,D,f1,go_sem]
   refine hK _ _ (by simp only [X,go_sem]) v ?_
   have gz:j=d.length - d.rank l:=by omega
   have e5:d.scan l to=(d.drop (d.rank l)).take j:=Y0 _ j ai (fun p' u=>by rw [List.getElem?_eq_none od] at u;cases u) od
   rw [e5]
   simp only [go_sem]
   exact h7
theorem z2J (hP:E.P=Tryz.prog) {yb b1 b2 b3 s N:Nat} {F:Nat->Prop} {v:Int} {d:KV} {X to:List UInt8} (ay:L[b1]?=some (.cells 1 [[.ptr s 0 0]])) (au:L[b2]?=some (.cells 1 [[.str X]])) (ae:L[b3]?=some (.cells 1 [[.str to]])) (h:zl L s F N v d) (hN:d.length<=900000)
  {Inv:Nat->(Nat->Prop)->List Blk->Prop} {Stop:List Blk->Prop} {G0:Nat->Prop} (hI:Inv 0 G0 L) (w:∀(i:Nat) (G H:Nat->Prop) (L1 L2:List Blk),Inv i G L1->Keep H L1 L2->(∀t,G t->¬H t)->Inv i G L2) (ag:∀(i:Nat) (G:Nat->Prop) (L1:List Blk),Inv i G L1->∀t,G t->t<L1.length)
  (B:∀(i:Nat) (G:Nat->Prop) (L1:List Blk) (p:List UInt8 × List UInt8),(d.scan X to)[i]?=some p->Inv i G L1->Keep G0 L L1->Grown G0 G L L1->E.yl yb [.str p.1,.str p.2] L1 fun r L2=>(r=.bool true/\∃G',Inv (i+1) G' L2/\Grown G G' L1 L2/\Keep G L1 L2)\/(r=.bool false/\Stop L2)) :
  XT E 169 [.yld yb,.ptr b1 0 0,.ptr b2 0 0,.ptr b3 0 0] L fun _ L'=>(∃G',Inv (d.scan X to).length G' L'/\Grown G0 G' L L'/\Keep G0 L L')\/Stop L':=by
 refine xt4 (fn:=Tryz.f169) (rs:=[]) (c:=ziX) hP fun ρ U h1 h2 h3=>?_
 refine zaZ (E:=E.noPan) hP ay au ae h hN U h1 h2 h3 ?_
 intro ρ' L1 V m M
 have bg:(d.scan X to).length<=900000:=Nat.le_trans (Nat.le_trans (List.takeWhile_sublist _).length_le (by simp)) hN
 generalize d.scan X to=ps at *
 clear U h1 h2 h3
 unfold ze0
 rcases M with ⟨M,rfl⟩ | ⟨rb,M,Y,bi,bu⟩
 ·simp only [M,go_sem]
  refine y7 ?_
  simp only [go_sem]
  exact .inl ⟨G0,w 0 G0 none' L L1 hI m fun _ _ h=>h,Grown.refl,m.mono fun _ _ h=>h.elim⟩
 ·simp only [M,go_sem]
  have bf:=WM ps
  refine zC (fun n ρ L2=>∃j:Nat,j<=ps.length/\n=ps.length - j/\ρ 0=.yld yb/\ρ 54=.sl rb 0 ps.length ps.length/\ρ 55=.int .i64 ps.length/\ρ 56=.int .i64 j/\L2[rb]?=some (.cells 2 (ZT ps))/\∃G,Inv j G L2/\Grown G0 G L L2/\Keep G0 L L2/\¬G rb)
   ⟨0,Nat.zero_le _,rfl,by simp only [V,go_sem],by simp only [go_sem],by simp only [go_sem],by simp only [go_sem]<;>rfl,Y,G0,w 0 G0 none' L L1 hI m (fun _ _ h=>h),Grown.refl,m.mono (fun _ _ h=>h.elim),fun h=>by have:=ag 0 G0 L hI rb h;omega⟩ ?_
  clear V M Y m
  rintro n ρ L2 ⟨j,hj,rfl,U,S,I,D,b,G,O,q,J,u⟩
  have az:=zg b
  by_cases hc:j<ps.length
  ·have f1:((j:Int)<(ps.length:Int))=True:=tO
   have f0:((0:Int)<=(j:Int))=True:=tO
   obtain ⟨p,hp⟩:∃p,ps[j]?=some p:=⟨_,List.getElem?_eq_getElem hc⟩
   have af:(ZT ps)[j]?=some [.str p.1,.str p.2]:=by simp [ZT,hp]
   have ai:(ZT ps).getD j []=[.str p.1,.str p.2]:=by rw [List.getD_eq_getElem?_getD,af];rfl
   have ak:(j<(ZT ps).length)=True:=tO
   have hw:IntKind.i64.wrap ((j:Int)+1)=((j+1:Nat):Int):=wR
   simp only [U,S,I,D,b,Yk,f0,f1,ai,ak,Int.toNat_natCast,Nat.zero_add,go_sem]
   have l:Keep none' L2 (L2++[Blk.cells 2 [[.str p.1,.str p.2]]]):=Keep.app Keep.refl
   have aj:=w j G none' _ _ O l fun _ _ h=>h
   have T:Keep G0 L (L2++[Blk.cells 2 [[.str p.1,.str p.2]]]):=J.trans l fun _ _ h=>h.elim
   have Z:Grown G0 G L (L2++[Blk.cells 2 [[.str p.1,.str p.2]]]):=fun t ht=>(q t ht).imp id fun h=>⟨h.1,by simp;omega⟩
   refine E.hylm _ _ _ _ _ ?_ (B j G _ p hp aj T Z)
   rintro r L4 (⟨rfl,G',ah,Q,A⟩ | ⟨rfl,hS⟩)
   ·have R:=A.get (l.get b fun h=>h) u
    simp only [U,S,I,D,hw,go_sem]
    refine ⟨ps.length - (j+1),od,j+1,od,rfl,rfl,R,G',ah,fun t ht=>?_,?_,?_⟩
    ·rcases Q t ht with h | h
     ·rcases q t h with h | h
      ·exact .inl h
      ·right;have:=A.1;have:=l.1;omega
     ·right;have:=J.1;have:=l.1;omega
    ·refine T.trans A fun t bn h=>?_
     rcases q t h with h | h
     ·exact h
     ·omega
    ·exact Q.out (by have:=zf b;simp;omega) u
   ·simp only [go_sem]
    exact .inr hS
  ·have f1:((j:Int)<(ps.length:Int))=False:=fO
   simp only [I,D,f1,go_sem]
   have ax:j=ps.length:=by omega
   subst ax
   exact .inl ⟨G,O,q,J⟩
theorem zaX (d:E.P=Tryz.prog) {s:Nat} {b to:List UInt8}:XT E 91 [.ptr s 0 0,.str b,.str to] L fun r L'=>r=.fn (.func 169) [] [.ptr L.length 0 0,.ptr (L.length+1) 0 0,.ptr (L.length+2) 0 0]/\L'=L++[.cells 1 [[.ptr s 0 0]],.cells 1 [[.str b]],.cells 1 [[.str to]]]:=by
 refine xt3 (fn:=Tryz.f91) (rs:=[.tmp 6]) (c:=q91) d fun ρ h h1 h2=>?_
 unfold q91
 simp only [h,h1,h2,go_sem]
 simp
def q92 : XC :=(sO [oV 4 (.bool false)] (sO [oM 5 0,oM 6 1,oC 7 170 [.t 5,.t 6],oM 4 7] .ret))
def zjC : XC :=(sO [oV 4 (.bool false)] (sO [oM 5 0,oO 6 (.lenS (.t 5)),oM 7 1,oO 8 (.lenS (.t 7)),oB 9 .geq 6 8,oM 10 9,oG 11 10 true (.mov (.t 0)),oG 12 10 true (.mov (.t 1)),oG 13 10 true (.lenS (.t 12)),oG 14 10 true (.sliceS (.t 11) none (some (.t 13))),oG 15 10 true (.mov (.t 1)),oG 16 10 true (.bin .eql (.t 14) (.t 15)),oO 17 (.pick (.t 10) (.t 16) (.c (.bool false))),oM 4 17] .ret))
def zir : XC :=(sO [oM 8 13] (.ops [oM 9 14]))
def zi0 : XC :=(.block 1 (.seq (sO [oL 15 7,oY 16 15,oL 17 5,oB 18 .geq 16 17,oM 19 18,oG 20 19 false (.mov (.t 8)),oG 21 19 false (.load1 (.t 4)),oG 22 19 false (.call (.f 92) [.t 20,.t 21]),oG 23 19 false (.un .not (.t 22)),oO 24 (.pick (.t 19) (.c (.bool true)) (.t 23))] (cT 24 (.exit 0) .skip)) (.ops [oL 25 7,oM 26 8,oM 27 9,oO 28 (.build [(.str []),(.str [])] [(0,(1,(.t 26))),(1,(1,(.t 27)))]),oO 29 (.bslice 2 [(.str []),(.str [])] 1 [(0,(.t 28))]),oO 30 (.append 2 32 (.t 25) (.t 29)),oS 7 30])))
def q33 : XC :=(sO [oO 4 (.box (.t 1)),oO 5 (.box (.t 2)),oV 6 .nsl] (sO [oO 7 (.alloc [.nsl])] (.seq (sO [oM 10 0,oL 11 4,oO 12 (.call (.f 91) [.t 10,.t 11,(.c (.str []))])] (.block 0 (.rngF (.t 12) 32 [13,14] zir zi0))) (sO [oL 31 7,oM 6 31] .ret))))
theorem z7W (j:E.P=Tryz.prog) (a b:List UInt8) (ha:a.length<=1099511627776) (l:b.length<=1099511627776):zD E 170 [.str a,.str b] (.bool (decide (b.length<=a.length/\a.take b.length=b))):=by
 refine xu2 (fn:=Tryz.f170) (c:=zjC) (t:=4) j fun ρ h h1=>?_
 unfold zjC
 by_cases hl:b.length<=a.length
 ·have d:((b.length:Int)<=(a.length:Int))=True:=tO
  simp only [h,h1,d,go_sem]
  refine ⟨hl,?_⟩
  rw [Yx rfl]
  simp [hl]
 ·have d:((b.length:Int)<=(a.length:Int))=False:=fO
  simp only [h,h1,d,go_sem]
  rw [Yx rfl]
  simp [hl]
def pfx (k p:List UInt8):Bool:=decide (p.length<=k.length/\k.take p.length=p)
theorem zbf (d:E.P=Tryz.prog) (a b:List UInt8) (ha:a.length<=1099511627776) (h:b.length<=1099511627776):zD E 92 [.str a,.str b] (.bool (pfx a b)):=by
 refine xu2 (fn:=Tryz.f92) (c:=q92) (t:=4) d fun ρ j h1=>?_
 unfold q92
 simp only [j,h1,go_sem]
 refine zi (args':=[.str a,.str b]) rfl (z7W (E:=E.noPan) d a b ha h) rfl ?_
 simp only [go_sem]
 rfl
def _root_.Go.X.KV.list (d:KV) (p:List UInt8):KV:=(d.scan p []).takeWhile fun q=>pfx q.1 p
theorem Yb {l:List IV} {p n:Nat} {v:IV} (h:p<l.length):yc (l.set p v) n=if n=p then v else yc l n:=by
 unfold yc
 rw [List.getD_eq_getElem?_getD,List.getD_eq_getElem?_getD,List.getElem?_set]
 by_cases hn:p=n
 ·subst hn;rw [if_pos rfl,if_pos h,if_pos rfl];rfl
 ·rw [if_neg hn,if_neg (Ne.symm hn)]
theorem z3A {N n:Nat} (h:n<N):yc ((List.range N).map ρ) n=ρ n:=by
 unfold yc
 rw [List.getD_eq_getElem?_getD,List.getElem?_map,List.getElem?_range h]
 rfl
def znj (L0:List Blk) (yb t4 t5 t7:Nat) (lp:Blk) (pre:List UInt8) (ps:KV) (i:Nat) (G:Nat->Prop) (L1:List Blk):Prop:=∃lv,L1[yb]?=some lp/\L1[t4]?=some (.cells 1 [[.str pre]])/\L1[t5]?=some (.cells 1 [[.int .i64 2147483648]])/\L1[t7]?=some (.cells 1 [[lv]])/\YC L0 L1 lv (ps.take i)/\
 (∀(j:Nat) (p:List UInt8 × List UInt8),j<i->ps[j]?=some p->pfx p.1 pre=true)/\G=fun t=>t=yb\/t=t4\/t=t5\/t=t7\/∃n,lv=.sl t 0 n n
def zjy (L0:List Blk) (yb t4 t5 t7:Nat) (r0:Loop) (l:List IV) (pre:List UInt8) (ps:KV) (L1:List Blk):Prop:=∃lv,L1[yb]?=some (.lp { r0 with state:=.done,pending:=some (.exit 0) } l)/\L1[t7]?=some (.cells 1 [[lv]])/\YC L0 L1 lv (ps.takeWhile fun q=>pfx q.1 pre)/\Keep (fun t=>t=yb\/t=t4\/t=t5\/t=t7) L0 L1
theorem z0U {c:XC} {KX:XE->Rho->List Blk->Prop} (F:Rho->Prop) (h:F ρ) (b:∀ρ',F ρ'->Zg E c ρ' L KX):Zg E c ρ L KX:=b ρ h
theorem z6U {L0 L1:List Blk} {v:IV} {ps:KV} {p:List UInt8 × List UInt8} {KV':IV->List Blk->Prop} (h:YC L0 L1 v ps) (w:L0.length<=L1.length) (u:ps.length<=1000000) (l:∀(rb:Nat) (M:List Blk),Keep (fun t=>∃n,v=.sl t 0 n n) L1 M->M[rb]?=some (.cells 2 (ZT (ps++[p])))->L1.length<=rb->KV' (.sl rb 0 (ps.length+1) (ps.length+1)) M) :
  xop E (.append 2 32 (.c v) (.c (.sl L1.length 0 1 1))) cev (L1++[.cells 2 [[.str p.1,.str p.2]]]) KV':=by
 have b:yz 2 [[IV.str p.1,IV.str p.2]]:=fun r j=>by simp at j;subst j;exact ⟨rfl,rfl⟩
 have m:rowsOf (L1++[Blk.cells 2 [[IV.str p.1,IV.str p.2]]]) (.sl L1.length 0 1 1)=some [[.str p.1,.str p.2]]:=Zd (sz:=2) (by simp) rfl
 rcases h with ⟨rfl,rfl⟩ | ⟨rb,rfl,d,q,s⟩
 ·refine Yo m b (by simp) (by simp) (l _ _ (Keep.app (Keep.app Keep.refl)) ?_ (by simp))
  simp [ZT]
 ·refine yh (Zz d) (WM ps) m b (by simp) (by simp;omega) (l (L1++[Blk.cells 2 [[IV.str p.1,IV.str p.2]]]).length _ (Keep.app (Keep.set (Keep.app Keep.refl) fun _=>⟨_,rfl⟩)) ?_ (by simp))
  have e1:((L1++[Blk.cells 2 [[IV.str p.1,IV.str p.2]]]).set rb .dead).length=(L1++[Blk.cells 2 [[IV.str p.1,IV.str p.2]]]).length:=lls
  rw [<-e1,List.getElem?_append_right (Nat.le_refl _),Nat.sub_self]
  simp [ZT]
theorem zbF (hP:E.P=Tryz.prog) {s N:Nat} {F:Nat->Prop} {Z:Int} {d:KV} {pre:List UInt8} (h:zl L s F N Z d) (hN:d.length<=900000) (gu:pre.length<=1000) (gm:∀p∈d,p.1.length<=1000) :
  XT E 33 [.ptr s 0 0,.str pre,.int .i64 2147483648] L fun r L'=>YC L L' r (d.list pre)/\Keep none' L L':=by
 refine xt3 (fn:=Tryz.f33) (rs:=[.tmp 6]) (c:=q33) hP fun ρ h0 h1 h2=>?_
 unfold q33
 simp (maxDischargeDepth:=12) only [h0,h1,h2,go_sem]
 refine zh (zaX (E:=E.noPan) hP) ?_
 rintro r L1 ⟨rfl,rfl⟩
 simp (maxDischargeDepth:=12) only [go_sem]
 obtain ⟨v,e4⟩:∃v,L.length=v:=⟨_,rfl⟩
 obtain ⟨V,e5⟩:∃V,(L++[Blk.cells 1 [[IV.str pre]]]).length=V:=⟨_,rfl⟩
 obtain ⟨I,e7⟩:∃I,(L++[Blk.cells 1 [[IV.str pre]]]++[Blk.cells 1 [[IV.int .i64 2147483648]]]).length=I:=⟨_,rfl⟩
 obtain ⟨B,eB⟩:∃B,(L++[Blk.cells 1 [[IV.str pre]]]++[Blk.cells 1 [[IV.int .i64 2147483648]]]++[Blk.cells 1 [[IV.nsl]]]).length=B:=⟨_,rfl⟩
 have n5:V=v+1:=by rw [<-e5,<-e4];simp
 have n7:I=v+2:=by rw [<-e7,<-e4];simp
 have nB:B=v+3:=by rw [<-eB,<-e4];simp
 rw [e4,e5,e7,eB]
 obtain ⟨M,eM⟩:∃M,(L++[Blk.cells 1 [[IV.str pre]]]++[Blk.cells 1 [[IV.int .i64 2147483648]]]++[Blk.cells 1 [[IV.nsl]]]++[Blk.cells 1 [[IV.ptr s 0 0]],Blk.cells 1 [[IV.str pre]],Blk.cells 1 [[IV.str []]]])=M:=⟨_,rfl⟩
 have kM:Keep none' L M:=by
  rw [<-eM]
  refine ⟨by simp,fun t D _=>?_⟩
  simp only [List.append_assoc]
  rw [List.getElem?_append_left D]
 have lM:M.length=v+6:=by rw [<-eM,<-e4];simp
 have gq:∀k,M[v+k]?=[Blk.cells 1 [[IV.str pre]],Blk.cells 1 [[IV.int .i64 2147483648]],Blk.cells 1 [[IV.nsl]],Blk.cells 1 [[IV.ptr s 0 0]],Blk.cells 1 [[IV.str pre]],Blk.cells 1 [[IV.str []]]][k]?:=fun k=>by
  rw [<-eM,<-e4]
  simp only [List.append_assoc]
  rw [List.getElem?_append_right od,Nat.add_sub_cancel_left]
  rfl
 have g4:M[v]?=some (.cells 1 [[.str pre]]):=gq 0
 have g5:M[V]?=some (.cells 1 [[.int .i64 2147483648]]):=by rw [n5];exact gq 1
 have g7:M[I]?=some (.cells 1 [[.nsl]]):=by rw [n7];exact gq 2
 have df:M[B]?=some (.cells 1 [[.ptr s 0 0]]):=by rw [nB];exact gq 3
 have cu:M[B+1]?=some (.cells 1 [[.str pre]]):=by rw [nB];exact gq 4
 have dh:M[B+2]?=some (.cells 1 [[.str []]]):=by rw [nB];exact gq 5
 rw [eM]
 refine z0U (fun ρ=>ρ 4=.ptr v 0 0/\ρ 5=.ptr V 0 0/\ρ 7=.ptr I 0 0/\ρ 12=.fn (.func 169) [] [.ptr B 0 0,.ptr (B+1) 0 0,.ptr (B+2) 0 0]) ⟨by simp (maxDischargeDepth:=12) only [go_sem],by simp (maxDischargeDepth:=12) only [go_sem],by simp (maxDischargeDepth:=12) only [go_sem],by simp (maxDischargeDepth:=12) only [go_sem]<;>rfl⟩ ?_
 clear h0 h1 h2
 rintro ay ⟨h4,h5,h7,di⟩
 refine z5X (gf:=169) (caps:=[.ptr B 0 0,.ptr (B+1) 0 0,.ptr (B+2) 0 0]) di ?_
 intro r0 a1 a2 a3
 obtain ⟨w,af⟩:∃w,M.length=w:=⟨_,rfl⟩
 obtain ⟨l,el⟩:∃l,(List.range 32).map ay=l:=⟨_,rfl⟩
 obtain ⟨L2,ah⟩:∃L2,M++[Blk.lp r0 l]=L2:=⟨_,rfl⟩
 rw [af,el,ah]
 have k2:Keep none' M L2:=by rw [<-ah];exact Keep.app Keep.refl
 have l2:L2.length=v+7:=by rw [<-ah];simp [lM]
 have gy:L2[w]?=some (.lp r0 l):=by rw [<-ah,<-af];simp
 have dm:zl L2 s F N Z d:=(h.keep kM fun _ _ h=>h).keep k2 fun _ _ h=>h
 have dn:l.length=32:=by rw [<-el];simp
 have au:∀p∈d.scan pre [],p∈d:=fun p Y=>List.mem_of_mem_drop ((List.takeWhile_sublist _).subset Y)
 have gz:(d.scan pre []).length<=900000:=Nat.le_trans (Nat.le_trans (List.takeWhile_sublist _).length_le (by simp)) hN
 refine XT.mono (z2J (E:=E.noPan.withY 32 [13,14] zir zi0) hP (k2.get df fun h=>h) (k2.get cu fun h=>h) (k2.get dh fun h=>h) dm hN (Inv:=znj L2 w v V I (.lp r0 l) pre (d.scan pre [])) (Stop:=zjy L2 w v V I r0 l pre (d.scan pre [])) (G0:=fun t=>t=w\/t=v\/t=V\/t=I\/∃n,IV.nsl=.sl t 0 n n) ?_ ?_ ?_ ?_) ?_
 ·exact ⟨.nsl,gy,k2.get g4 fun h=>h,k2.get g5 fun h=>h,k2.get g7 fun h=>h,.inl ⟨rfl,rfl⟩,fun j p hj=>by omega,rfl⟩
 ·rintro i G H LA LB ⟨lv,A,i2,i3,O,m,i6,rfl⟩ hk hn
  refine ⟨lv,hk.get A (hn _ (.inl rfl)),hk.get i2 (hn _ (.inr (.inl rfl))),hk.get i3 (hn _ (.inr (.inr (.inl rfl)))),hk.get O (hn _ (.inr (.inr (.inr (.inl rfl))))),?_,i6,rfl⟩
  rcases m with m | ⟨rb,J,X,j3,j4⟩
  ·exact .inl m
  ·exact .inr ⟨rb,J,hk.get X (hn _ (.inr (.inr (.inr (.inr ⟨_,J⟩))))),j3,j4⟩
 ·rintro i G LA ⟨lv,A,i2,i3,O,m,i6,rfl⟩ t D
  rcases D with rfl | rfl | rfl | rfl | ⟨n,D⟩
  ·exact zf A
  ·exact zf i2
  ·exact zf i3
  ·exact zf O
  ·rcases m with ⟨m,_⟩ | ⟨rb,J,X,j3,j4⟩
   ·rw [m] at D;cases D
   ·rw [J] at D;cases D;exact zf X
 ·rintro i G LA p Y ⟨lv,A,i2,i3,O,m,i6,rfl⟩ eu lw
  have dw:=au p (List.mem_of_getElem? Y)
  have ig:=gm p dw
  refine ⟨r0,l,A,a1,a2,a3,rfl,by decide,by rfl,by rfl,dn,?_⟩
  have aj:VE l [13,14] [.str p.1,.str p.2]=(l.set 13 (.str p.1)).set 14 (.str p.2):=rfl
  have q14:yc (VE l [13,14] [.str p.1,.str p.2]) 14=.str p.2:=by rw [aj,Yb (by rw [lls];omega),if_pos rfl]
  have q13:yc (VE l [13,14] [.str p.1,.str p.2]) 13=.str p.1:=by rw [aj,Yb (by rw [lls];omega),if_neg (by decide),Yb od,if_pos rfl]
  have qn:∀n,n<13->yc (VE l [13,14] [.str p.1,.str p.2]) n=ay n:=fun n hn=>by rw [aj,Yb (by rw [lls];omega),if_neg od,Yb od,if_neg od,<-el,z3A od]
  have q4:=(qn 4 od).trans h4
  have q5:=(qn 5 od).trans h5
  have q7:=(qn 7 od).trans h7
  generalize yc (VE l [13,14] _)=ρ2 at *
  unfold zir
  simp (maxDischargeDepth:=12) only [q13,q14,go_sem]
  refine ⟨A,?_⟩
  have m4:=zo A i2 (by simp)
  have m5:=zo A i3 (by simp)
  have m7:=zo A O (by simp)
  have lq:(I=v)=False:=fO
  have iw:(I=V)=False:=fO
  have ed:(I=w)=False:=eq_false fun h=>of_eq_false m7 h.symm
  obtain ⟨bf,az⟩:∃b,Blk.lp { state:=LoopState.busy,pending:=r0.pending,fn:=r0.fn,tmps:=r0.tmps,params:=r0.params,assign:=r0.assign,body:=r0.body,defers:=r0.defers } l=b:=⟨_,rfl⟩
  rw [az]
  obtain ⟨LB,ag⟩:∃LB,LA.set w bf=LB:=⟨_,rfl⟩
  have T:Keep (fun t=>t=w) LA LB:=by rw [<-ag];exact Keep.set Keep.refl fun _=>rfl
  have lh:LB.length=LA.length:=by rw [<-ag,lls]
  have b1:LB[w]?=some bf:=by rw [<-ag,List.getElem?_set_self (zf A)]
  have b2:=T.get i2 fun h=>of_eq_false m4 h.symm
  have b3:=T.get i3 fun h=>of_eq_false m5 h.symm
  have b4:=T.get O fun h=>of_eq_false m7 h.symm
  have b5:YC L2 LB lv ((d.scan pre []).take i):=by
   rcases m with m | ⟨rb,J,X,j3,j4⟩
   ·exact .inl m
   ·exact .inr ⟨rb,J,T.get X (by have:=zf gy;omega),j3,j4⟩
  have ik:i<(d.scan pre []).length:=zf Y
  have ak:((d.scan pre []).take i).length=i:=by simp;omega
  have bu:=b5.len
  rw [ak] at bu
  have l1:=zg b1
  have iy:=zg b2
  have l3:=zg b3
  have l4:=zg b4
  have f1:((2147483648:Int)<=(i:Int))=False:=fO
  have R:Keep (fun t=>t=w\/t=v\/t=V\/t=I) L2 LA:=eu.mono fun t _ h=>by
   rcases h with h | h | h | h | ⟨n,h⟩
   ·exact .inl h
   ·exact .inr (.inl h)
   ·exact .inr (.inr (.inl h))
   ·exact .inr (.inr (.inr h))
   ·cases h
  rw [ag]
  unfold zi0
  simp (maxDischargeDepth:=12) only [q4,q5,q7,b2,b3,b4,zt bu,f1,go_sem]
  refine zi (args':=[.str p.1,.str pre]) rfl (zbf (E:=E.noPan) hP p.1 pre od od) rfl ?_
  cases hpf:pfx p.1 pre with
  | false=>
   simp (maxDischargeDepth:=12) only [b1,zeo,go_sem]
   right
   have e5:(d.scan pre []).takeWhile (fun q=>pfx q.1 pre)=(d.scan pre []).take i:=Y0 _ i i6 (fun p' S=>by rw [Y] at S;cases S;exact hpf) od
   refine ⟨lv,List.getElem?_set_self (zf b1),?_,?_,?_⟩
   ·rw [List.getElem?_set_ne (fun h=>of_eq_false m7 h)];exact b4
   ·rw [e5]
    rcases b5 with b5 | ⟨rb,J,X,j3,j4⟩
    ·exact .inl b5
    ·exact .inr ⟨rb,J,by rw [List.getElem?_set_ne (by have:=zf gy;omega)];exact X,j3,j4⟩
   ·refine Keep.set (R.trans T fun t _ h=>.inl h) fun _=>.inl rfl
  | true=>
   simp (maxDischargeDepth:=12) only [q7,b4,go_sem]
   refine z6U (p:=p) b5 (by have:=R.1;omega) (by rw [ak];omega) ?_
   intro rb Mb U bn kz
   rw [ak]
   have Q:∀t,(∃n,lv=.sl t 0 n n)->L2.length<=t:=by
    rintro t ⟨n,D⟩
    rcases m with ⟨m,_⟩ | ⟨lm,J,X,j3,j4⟩
    ·rw [m] at D;cases D
    ·rw [J] at D;cases D;exact j3
   have bz:w<L2.length:=zf gy
   have c1:=U.get b1 (fun h=>by have:=Q _ h;omega)
   have c2:=U.get b2 (fun h=>by have:=Q _ h;omega)
   have c3:=U.get b3 (fun h=>by have:=Q _ h;omega)
   have c4:=U.get b4 (fun h=>by have:=Q _ h;omega)
   have iq:=zg c4
   have lu:LA.length<=Mb.length:=by have:=U.1;omega
   have gp:=zf bn
   simp (maxDischargeDepth:=12) only [q7,c1,c4,ed,zeo,go_sem]
   left
   have bi:(d.scan pre []).take (i+1)=(d.scan pre []).take i++[p]:=by rw [List.take_add_one,Y];rfl
   have bg:((d.scan pre []).take (i+1)).length=i+1:=by simp;omega
   have ax:∀u,u<L2.length->¬rb=u:=fun u hu=>by have:=R.1;omega
   have ku:=zf i2
   refine ⟨fun t=>t=w\/t=v\/t=V\/t=I\/∃n,IV.sl rb 0 (i+1) (i+1)=.sl t 0 n n,⟨_,?_,?_,?_,?_,.inr ⟨rb,by rw [bg],?_,?_,by rw [bi];simp⟩,?_,rfl⟩,?_,?_⟩
   ·rw [List.getElem?_set_self (by rw [lls];exact zf c1)]
   ·rw [List.getElem?_set_ne (fun h=>of_eq_false m4 h),List.getElem?_set_ne od];exact c2
   ·rw [List.getElem?_set_ne (fun h=>of_eq_false m5 h),List.getElem?_set_ne od];exact c3
   ·rw [List.getElem?_set_ne (fun h=>of_eq_false m7 h),List.getElem?_set_self (zf c4)]
   ·rw [List.getElem?_set_ne (fun h=>ax w bz h.symm),List.getElem?_set_ne (fun h=>ax I od h.symm),bi];exact bn
   ·have:=R.1;omega
   ·intro q p' hq S
    by_cases hqi:q<i
    ·exact i6 q p' hqi S
    ·have:q=i:=by omega
     subst this
     rw [Y] at S;cases S;exact hpf
   ·rintro t (h | h | h | h | ⟨n,h⟩)
    ·exact .inl (.inl h)
    ·exact .inl (.inr (.inl h))
    ·exact .inl (.inr (.inr (.inl h)))
    ·exact .inl (.inr (.inr (.inr (.inl h))))
    ·right
     simp only [IV.sl.injEq] at h
     obtain ⟨rfl,_⟩:=h
     simp only [lls]
     omega
   ·have k1:Keep (fun t=>t=w\/t=v\/t=V\/t=I\/∃n,lv=.sl t 0 n n) LA Mb:=(T.mono fun t _ h=>.inl h).trans U fun t _ h=>.inr (.inr (.inr (.inr h)))
    exact Keep.set (Keep.set k1 fun _=>.inr (.inr (.inr (.inl rfl)))) fun _=>.inl rfl
 ·rintro r L3 (⟨G',⟨lv,A,i2,i3,O,m,i6,rfl⟩,kw,ai⟩ | ⟨lv,A,O,m,ai⟩)
  ·refine ⟨r0,A,by rw [a1];decide,?_⟩
   rw [a2]
   have m7:=zo A O (by simp)
   have l4:=zg O
   simp (maxDischargeDepth:=12) only [h7,O,m7,go_sem]
   have hyl:v+6=w:=by rw [<-af,lM]
   have ae:Keep none' L L2:=kM.trans k2 fun _ _ h=>h
   have e5:d.list pre=d.scan pre []:=by
    have:=Y0 (P:=fun q=>pfx q.1 pre) (d.scan pre []) (d.scan pre []).length (fun j p hj Y=>i6 j p hj Y) (fun p Y=>by rw [List.getElem?_eq_none (Nat.le_refl _)] at Y;cases Y) (Nat.le_refl _)
    rw [List.take_length] at this
    exact this
   rw [e5]
   rw [List.take_length] at m
   refine ⟨?_,Keep.set (ae.trans ai fun t D h=>?_) fun h=>by omega⟩
   ·rcases m with m | ⟨rb,J,X,j3,j4⟩
    ·exact .inl m
    ·refine .inr ⟨rb,J,?_,by have:=ae.1;omega,j4⟩
     have:=zf gy
     rw [List.getElem?_set_ne od];exact X
   ·rcases h with h | h | h | h | ⟨n,h⟩
    ·omega
    ·omega
    ·omega
    ·omega
    ·cases h
  ·refine ⟨_,A,by simp,?_⟩
   have m7:=zo A O (by simp)
   have l4:=zg O
   simp (maxDischargeDepth:=12) only [h7,O,m7,go_sem]
   have hyl:v+6=w:=by rw [<-af,lM]
   have ae:Keep none' L L2:=kM.trans k2 fun _ _ h=>h
   refine ⟨?_,Keep.set (ae.trans ai fun t D h=>by omega) fun h=>by omega⟩
   rcases m with m | ⟨rb,J,X,j3,j4⟩
   ·exact .inl m
   ·refine .inr ⟨rb,J,?_,by have:=ae.1;omega,j4⟩
    have:=zf gy
    rw [List.getElem?_set_ne od];exact X
theorem z7T {L:List Blk} {n:Nat} {m:Ren} (d:KV):zJ (zJ (conv L (n+1) m)) (ZT d)=some (ZT d):=by
 refine wz fun r b=>?_
 obtain ⟨k,_,rfl⟩:=List.mem_map.1 b
 rfl
theorem Jw (w:E.P=Tryz.prog) {s N:Nat} {F:Nat->Prop} {b:Int} {d:KV} {pre:List UInt8} (h:zl L s F N b d) (m:d.length<=900000) (j:pre.length<=1000) (l:∀p∈d,p.1.length<=1000) :
  XT E 33 [.ptr s 0 0,.str pre,.int .i64 2147483648] L fun r L'=>r=.isl (ZT (d.list pre))/\L'=L:=by
 refine zU (zbF w h m j l) ?_
 rintro r L' ⟨v,q⟩
 refine ⟨q,_,?_,rfl⟩
 rcases v with ⟨rfl,e⟩ | ⟨rb,rfl,u,B,A⟩
 ·rw [e];rfl
 ·have h1:Zv L.length rb=some none:=by simp [Zv];omega
  have h2:(ZT (d.list pre)).take (d.list pre).length=ZT (d.list pre):=List.take_of_length_le (by rw [WM];exact Nat.le_refl _)
  simp [fuel,conv,h1,u,WM,h2,z7T]
def q95 : XC :=(sO [oI 6 0] (.scope (sO [oM 12 0,oN 13 12,oF 14 1 13,oL 15 14,oM 7 15,oI 8 0] (.seq (sO [oM 16 7,oM 17 0,oN 18 17,oF 19 0 18,oL 20 19,oY 21 20,oB 22 .eql 16 21] (cT 22 (.ops [oM 23 0,oM 24 7,oC 25 172 [.t 23,.t 24]]) .skip)) (sO [oM 26 0,oN 27 26,oF 28 0 27,oL 29 28,oM 30 7,oO 31 (.idxS 1 (.t 29) (.t 30)),oL 32 31,oO 33 (.cvInt .i64 (.t 32)),oM 9 33] (.seq (sO [oM 34 9,oK 35 .gtr 34 7] (cT 35 (.goto 0) .skip)) (.seq (sO [oM 36 9,oM 37 0,oN 38 37,oF 39 0 38,oL 40 39,oY 41 40,oM 42 7,oB 43 .sub 41 42,oK 44 .sub 43 1,oB 45 .gtr 36 44] (cT 45 (.ops [oM 46 0,oM 47 0,oN 48 47,oF 49 0 48,oL 50 49,oY 51 50,oC 52 172 [.t 46,.t 51]]) .skip)) (sO [oM 53 0,oN 54 53,oF 55 1 54,oL 56 55,oM 57 9,oO 58 (.bin .add (oi 1) (.t 57)),oB 59 .add 56 58,oN 60 53,oF 61 1 60,oS 61 59] (.seq (.seq (.draw [oM 62 0,oN 63 62,oF 64 0 63,oL 65 64,oM 66 7,oK 67 .add 66 1,oM 68 0,oN 69 68,oF 70 1 69,oL 71 70,oO 72 (.slice 1 (.t 65) (some (.t 67)) (some (.t 71))),oY 73 72,oI 74 0]) (.block 0 (.loop (sO [oB 75 .lss 74 73] (.seq (cT 75 .skip (.exit 0)) (.seq (.block 1 (sO [oO 76 (.idxS 1 (.t 72) (.t 74)),oL 77 76,oM 11 77] (.ops [oM 78 8,oO 79 (.bin .shl (.t 78) (.c (.int .u64 8))),oM 80 11,oO 81 (.cvInt .i64 (.t 80)),oB 82 .or 79 81,oM 8 82]))) (.ops [oK 83 .add 74 1,oM 74 83]))))))) (.seq (sO [oM 84 9,oK 85 .gtr 84 0,oM 86 85,oG 87 86 true (.mov (.t 0)),oG 88 86 true (.nilck (.t 87)),oG 89 86 true (.fldA 0 (.t 88)),oG 90 86 true (.load1 (.t 89)),oG 91 86 true (.mov (.t 7)),oG 92 86 true (.bin .add (.t 91) (oi 1)),oG 93 86 true (.idxS 1 (.t 90) (.t 92)),oG 94 86 true (.load1 (.t 93)),oG 95 86 true (.bin .eql (.t 94) (.c (.int .u8 0))),oO 96 (.pick (.t 86) (.t 95) (.c (.bool false))),oM 97 96,oG 98 97 false (.mov (.t 8)),oG 99 97 false (.mov (.t 1)),oG 100 97 false (.bin .lss (.t 98) (.t 99)),oO 101 (.pick (.t 97) (.c (.bool true)) (.t 100)),oM 102 101,oG 103 102 false (.mov (.t 8)),oG 104 102 false (.mov (.t 2)),oG 105 102 false (.bin .gtr (.t 103) (.t 104)),oO 106 (.pick (.t 102) (.c (.bool true)) (.t 105))] (cT 106 (.goto 0) .skip)) (.seq (sO [oM 107 8,oM 6 107] .ret) (.seq (.label 0) (sO [oM 108 0,oM 109 7,oC 110 172 [.t 108,.t 109]] (sO [oI 6 0] .ret)))))))))))) (.cons 0 (.seq .skip (sO [oM 108 0,oM 109 7,oC 110 172 [.t 108,.t 109]] (sO [oI 6 0] .ret))) .nil)))
def q96 : XC :=(sO [oV 2 (.str [])] (sO [oM 4 0,oC 5 95 [.t 4,(oi 0),(oi 1048576)],oM 3 5] (.seq (.seq (.draw [oM 6 3,oM 7 0,oN 8 7,oF 9 0 8,oL 10 9,oY 11 10,oM 12 0,oN 13 12,oF 14 1 13,oL 15 14,oB 16 .sub 11 15,oB 17 .gtr 6 16]) (cT 17 (.ops [oM 18 0,oM 19 0,oN 20 19,oF 21 0 20,oL 22 21,oY 23 22,oC 24 172 [.t 18,.t 23]]) .skip)) (sO [oM 25 0,oN 26 25,oF 27 1 26,oL 28 27,oM 29 3,oB 30 .add 28 29,oN 31 25,oF 32 1 31,oS 32 30] (.seq (.drawE [oM 33 0,oN 34 33,oF 35 0 34,oL 36 35,oM 37 0,oN 38 37,oF 39 1 38,oL 40 39,oM 41 3,oB 42 .sub 40 41,oM 43 0,oN 44 43,oF 45 1 44,oL 46 45,oO 47 (.slice 1 (.t 36) (some (.t 42)) (some (.t 46))),oO 48 (.ex .bStr [.t 47]),oM 2 48]) .ret)))))
def q97 : XC :=(sO [oI 2 0] (sO [oM 4 0,oC 5 147 [.t 4],oM 3 5] (.seq (sO [oM 6 3,oK 7 .rem 6 2,oK 8 .eql 7 1] (cT 8 (sO [oM 9 3,oK 10 .add 9 1,oO 11 (.un .neg (.t 10)),oK 12 .quo 11 2,oM 2 12] .ret) .skip)) (sO [oM 13 3,oK 14 .quo 13 2,oM 2 14] .ret))))
def zh4 : XC :=(sO [oI 2 0] (sO [oM 3 0,oC 4 95 [.t 3,(oi 0),(oi 4503599627370496)],oM 2 4] .ret))
def zkk : XC :=(sO [oV 2 (.bool false)] (.seq (.seq (.draw [oM 3 0,oN 4 3,oF 5 1 4,oL 6 5,oM 7 0,oN 8 7,oF 9 0 8,oL 10 9,oY 11 10,oB 12 .eql 6 11,oM 13 12,oG 14 13 false (.mov (.t 0)),oG 15 13 false (.nilck (.t 14)),oG 16 13 false (.fldA 0 (.t 15)),oG 17 13 false (.load1 (.t 16)),oG 18 13 false (.mov (.t 0)),oG 19 13 false (.nilck (.t 18)),oG 20 13 false (.fldA 1 (.t 19)),oG 21 13 false (.load1 (.t 20)),oG 22 13 false (.idxS 1 (.t 17) (.t 21)),oG 23 13 false (.load1 (.t 22)),oG 24 13 false (.bin .gtr (.t 23) (.c (.int .u8 1))),oO 25 (.pick (.t 13) (.c (.bool true)) (.t 24))]) (cT 25 (.ops [oM 26 0,oM 27 0,oN 28 27,oF 29 1 28,oL 30 29,oC 31 172 [.t 26,.t 30]]) .skip)) (sO [oM 32 0,oN 33 32,oF 34 1 33,oL 35 34,oK 36 .add 35 1,oN 37 32,oF 38 1 37,oS 38 36] (.seq (.draw [oM 39 0,oN 40 39,oF 41 0 40,oL 42 41,oM 43 0,oN 44 43,oF 45 1 44,oL 46 45,oK 47 .sub 46 1,oO 48 (.idxS 1 (.t 42) (.t 47)),oL 49 48,oO 50 (.bin .eql (.t 49) (.c (.int .u8 1))),oM 2 50]) .ret))))
def zka : XC :=(.ops [oM 4 1,oO 5 (.build [(.int .i64 0)] [(0,(1,(.t 4)))]),oO 6 (.ex (.mkif 274) [.t 5]),oU (.ex .panic [.t 6])])
def yZ (bs:List (List IV)) (n:Nat):Blk:=.cells 2 [[.isl bs,.int .i64 n]]
theorem zcH {n j:Nat} (h:j<zn n):(zL n)[j+1]?=some [.int .u8 (n / 256^(zn n - 1 - j)%256:Nat)]:=by
 unfold zL
 rw [List.getElem?_cons_succ,List.getElem?_map,List.getElem?_reverse (by simpa using h)]
 rw [List.getElem?_range' (by simp;omega)]
 simp
theorem get_at {bs rs rest:List (List IV)} {a j:Nat} {x:List IV} (h:bs.drop a=rs++rest) (b:rs[j]?=some x):bs[a+j]?=some x:=by
 have h1:(bs.drop a)[j]?=some x:=by rw [h,List.getElem?_append_left (zf b)];exact b
 rwa [List.getElem?_drop] at h1
theorem z9F {bs rs rest:List (List IV)} {a:Nat} (h:bs.drop a=rs++rest) (b:rs≠[]):a+rs.length+rest.length=bs.length:=by
 have h1:=congrArg List.length h
 have h2:=List.length_pos_iff.2 b
 rw [List.length_drop,lla] at h1
 omega
theorem drop_at {bs rs rest:List (List IV)} {a:Nat} (h:bs.drop a=rs++rest):bs.drop (a+rs.length)=rest:=by
 rw [<-List.drop_drop,h,List.drop_left]
theorem zcq {a:Nat} (h:a<36028797018963968):zez .i64 (a:Int) 8=((a*256:Nat):Int):=by
 unfold zez
 have b:IntKind.i64.bits=64:=rfl
 have e1:(8:Int).toNat=8:=rfl
 rw [b,e1]
 rw [show ((a:Int)*2^min 8 64)=((a*256:Nat):Int) by simp]
 rw [wrap64 od od]
theorem zdC {a b:Nat} (ha:a<36028797018963968) (h:b<256):bor .i64 ((a*256:Nat):Int) (b:Int)=((a*256+b:Nat):Int):=by
 unfold bor
 have d:IntKind.i64.bits=64:=rfl
 rw [d]
 have e1:(BitVec.ofInt 64 ((a*256:Nat):Int)|||BitVec.ofInt 64 (b:Int)).toNat=a*256+b:=by
  rw [BitVec.toNat_or,BitVec.ofInt_natCast,BitVec.ofInt_natCast,BitVec.toNat_ofNat,BitVec.toNat_ofNat,Nat.mod_eq_of_lt od,Nat.mod_eq_of_lt od]
  have:=Nat.shiftLeft_add_eq_or_of_lt (b:=b) (i:=8) od a
  rw [Nat.shiftLeft_eq] at this
  exact this.symm
 rw [e1,wrap64 od od]
theorem z6K {n s:Nat}:n / 256^(s+1)*256+n / 256^s%256=n / 256^s:=by
 rw [Nat.pow_succ,<-Nat.div_div_eq_div_mul]
 omega
theorem WV (hP:E.P=Tryz.prog) {p a n:Nat} {bs rest:List (List IV)} {b d:Int} (Y:L[p]?=some (yZ bs a)) (ha:bs.drop a=zL n++rest) (hr:zA bs) (hN:bs.length<=1099511627776) (ax:b<=(n:Int)) (ay:(n:Int)<=d) (hn:n<256^7) :
  XT E 95 [.ptr p 0 0,.int .i64 b,.int .i64 d] L fun r L'=>r=.int .i64 n/\L'=L.set p (yZ bs (a+(zn n+1))):=by
 have U:=z9F ha (z4J n)
 rw [zM] at U
 have bf:=Zj (n:=n) (k:=7) hn
 have O:=get_at ha (j:=0) (x:=[.int .u8 (zn n)]) rfl
 have T:∀j,j<zn n->bs[a+(j+1)]?=some [.int .u8 (n / 256^(zn n - 1 - j)%256:Nat)]:=fun j hj=>get_at ha (zcH hj)
 have Q:Rows 1 bs=True:=eq_true (fun r u=>by obtain ⟨n,rfl⟩:=hr r u;rfl)
 have lp:=zg Y
 unfold yZ at Y
 have lo:lenOf (.isl bs)=some bs.length:=rfl
 refine xt3 (fn:=Tryz.f95) (rs:=[.tmp 6]) (c:=q95) hP fun ρ J h1 h2=>?_
 unfold q95
 have f1:((a:Int)=(bs.length:Int))=False:=fO
 have f2:((0:Int)<=(a:Int))=True:=tO
 have f3:((a:Int)<(bs.length:Int))=True:=tO
 have f4:((7:Int)<(zn n:Int))=False:=fO
 have f5:((bs.length:Int) - (a:Int) - 1<(zn n:Int))=False:=fO
 have w1:IntKind.i64.wrap ((bs.length:Int) - (a:Int))=(bs.length:Int) - (a:Int):=wrap64 od od
 have w2:IntKind.i64.wrap ((bs.length:Int) - (a:Int) - 1)=(bs.length:Int) - (a:Int) - 1:=wrap64 od od
 have w3:IntKind.i64.wrap (1+(zn n:Int))=((1+zn n:Nat):Int):=wR
 have w4:IntKind.i64.wrap ((a:Int)+((1+zn n:Nat):Int))=((a+(zn n+1):Nat):Int):=wR
 have w5:IntKind.i64.wrap ((a:Int)+1)=((a+1:Nat):Int):=wR
 have w6:IntKind.i64.wrap (zn n:Int)=(zn n:Int):=wrap64 od od
 simp only [go_sem]
 refine z9x (fun _ _ _=>False) 0 ?_ (fun _ _ _ h=>h.elim)
 have f6:(a<bs.length)=True:=tO
 have ag:bs.getD a []=[.int .u8 (zn n)]:=by rw [List.getD_eq_getElem?_getD];simp only [Nat.add_zero] at O;rw [O];rfl
 have lr:[IV.int .u8 (zn n)].length=1:=rfl
 have af:[IV.int .u8 (zn n)].getD 0 IV.und=.int .u8 (zn n):=rfl
 simp only [J,Y,lp,zt lo,f1,f2,f3,f4,f5,f6,ag,lr,af,Q,Int.toNat_natCast,w1,w2,w3,w4,w5,w6,go_sem]
 refine ⟨rfl,od,od,?_⟩
 obtain ⟨L1,w⟩:∃L1,L.set p (.cells 2 [[.isl bs,.int .i64 ((a+(zn n+1):Nat):Int)]])=L1:=⟨_,rfl⟩
 have M:L1[p]?=some (.cells 2 [[.isl bs,.int .i64 ((a+(zn n+1):Nat):Int)]]):=by rw [<-w,List.getElem?_set_self (zf Y)]
 obtain ⟨sl,l⟩:∃sl,(bs.take (a+(zn n+1))).drop (a+1)=sl:=⟨_,rfl⟩
 have V:sl.length=zn n:=by rw [<-l];simp;omega
 have R:∀j,j<zn n->sl.getD j []=[.int .u8 (n / 256^(zn n - 1 - j)%256:Nat)]:=fun j hj=>by
  rw [List.getD_eq_getElem?_getD,<-l,List.getElem?_drop,List.getElem?_take_of_lt od,show a+1+j=a+(j+1) by omega,T j hj]
  rfl
 have hz:n / 256^(zn n - 0)=0:=by
  rcases Nat.eq_zero_or_pos (n / 256^(zn n - 0)) with h | h
  ·exact h
  ·have:=(WI n _).1 h;omega
 refine zC (fun m ρ L'=>∃i:Nat,i<=zn n/\m=zn n - i/\L'=L1/\ρ 0=.ptr p 0 0/\ρ 1=.int .i64 b/\ρ 2=.int .i64 d/\ρ 7=.int .i64 a/\ρ 9=.int .i64 (zn n)/\ρ 72=.isl sl/\ρ 73=.int .i64 (zn n)/\ρ 74=.int .i64 i/\ρ 8=.int .i64 ((n / 256^(zn n - i):Nat):Int))
  ⟨0,Nat.zero_le _,rfl,by rw [<-w],by simp only [J,go_sem],by simp only [h1,go_sem],by simp only [h2,go_sem],by simp only [go_sem],by simp only [go_sem],by simp only [l,go_sem],by simp only [l,V,go_sem],by simp only [go_sem],by simp only [go_sem];rw [hz];rfl⟩ ?_
 clear J h1 h2 ρ
 rintro m ρ L' ⟨i,hi,rfl,rfl,J,h1,h2,h7,h9,ah,A,D,Z⟩
 by_cases hc:i<zn n
 ·have e1:((i:Int)<(zn n:Int))=True:=tO
  have e0:((0:Int)<=(i:Int))=True:=tO
  have e2:(i<zn n)=True:=eq_true hc
  have hv:=R i hc
  obtain ⟨v,q⟩:∃v,n / 256^(zn n - 1 - i)%256=v:=⟨_,rfl⟩
  rw [q] at hv
  have ai:v<256:=by rw [<-q];exact Nat.mod_lt _ (by decide)
  have hq:n / 256^(zn n - i)<36028797018963968:=by
   refine Nat.lt_of_le_of_lt (Nat.div_le_div_left (c:=256^1) (Nat.pow_le_pow_right (by decide) od) (by decide)) ?_
   omega
  have ae:Rows 1 sl=True:=eq_true (fun r u=>by
   rw [<-l] at u
   obtain ⟨n,rfl⟩:=hr r (List.mem_of_mem_take (List.mem_of_mem_drop u));rfl)
  have e3:((i:Int)<(sl.length:Int))=True:=tO
  have e4:(i<sl.length)=True:=tO
  have I:[IV.int .u8 v].length=1:=rfl
  have G:[IV.int .u8 v].getD 0 IV.und=.int .u8 v:=rfl
  have fw:IntKind.i64.wrap ((i:Int)+1)=((i+1:Nat):Int):=wR
  have fv:IntKind.i64.wrap (v:Int)=(v:Int):=wrap64 od od
  have B:n / 256^(zn n - i)*256+v=n / 256^(zn n - (i+1)):=by
   rw [<-q,show zn n - i=(zn n - 1 - i)+1 by omega,z6K,show zn n - (i+1)=zn n - 1 - i by omega]
  simp only [J,h1,h2,h7,Z,h9,ah,A,D,e1,e0,e3,e4,ae,hv,I,G,Int.toNat_natCast,fw,fv,zcq hq,zdC hq ai,go_sem]
  exact ⟨zn n - (i+1),od,i+1,od,rfl,rfl,by rw [B]⟩
 ·have e1:((i:Int)<(zn n:Int))=False:=fO
  have aj:i=zn n:=by omega
  subst aj
  have ez:n / 256^(zn n - zn n)=n:=by simp
  rw [ez] at Z
  have g1:((n:Int)<b)=False:=fO
  have g2:(d<(n:Int))=False:=fO
  by_cases hk0:zn n=0
  ·have g0:((0:Int)<(zn n:Int))=False:=fO
   simp only [h1,h2,Z,h9,A,D,e1,g0,g1,g2,go_sem]
   exact w.symm
  ·have g0:((0:Int)<(zn n:Int))=True:=tO
   have S:bs.getD (a+1) []=[.int .u8 (n / 256^(zn n - 1)%256:Nat)]:=by
    rw [List.getD_eq_getElem?_getD]
    have:=T 0 od
    simp only [Nat.zero_add,Nat.sub_zero] at this
    rw [this];rfl
   have ak:=(WI n (zn n - 1)).2 od
   have az:n / 256^zn n=0:=by simpa using hz
   have X:=z6K (n:=n) (s:=zn n - 1)
   rw [show zn n - 1+1=zn n by omega] at X
   obtain ⟨v,q⟩:∃v,n / 256^(zn n - 1)%256=v:=⟨_,rfl⟩
   rw [q] at X S
   have g3:((v:Int)=0)=False:=fO
   have g4:((0:Int)<=((a+1:Nat):Int))=True:=tO
   have g5:(((a+1:Nat):Int)<(bs.length:Int))=True:=tO
   have g6:(a+1<bs.length)=True:=tO
   have I:[IV.int .u8 v].length=1:=rfl
   have G:[IV.int .u8 v].getD 0 IV.und=.int .u8 v:=rfl
   have au:=zg M
   simp only [J,h1,h2,h7,Z,h9,A,D,M,e1,g0,g1,g2,w5,Q,g3,g4,g5,g6,I,G,S,Int.toNat_natCast,go_sem]
   exact w.symm
theorem Y1 (b:E.P=Tryz.prog) {p a n:Nat} {bs rest:List (List IV)} (d:L[p]?=some (yZ bs a)) (ha:bs.drop a=zL n++rest) (h:zA bs) (j:bs.length<=1099511627776) (m:n<=4503599627370496) :
  XT E 147 [.ptr p 0 0] L fun r L'=>r=.int .i64 n/\L'=L.set p (yZ bs (a+(zn n+1))):=by
 refine xt1 (fn:=Tryz.f147) (rs:=[.tmp 2]) (c:=zh4) b fun ρ l=>?_
 unfold zh4
 simp only [l,go_sem]
 refine zh (WV (E:=E.noPan) b d ha h j od od od) ?_
 rintro r L' ⟨rfl,rfl⟩
 simp only [go_sem]
def wO (v:Int):Nat:=if v<0 then (-2*v - 1).toNat else (2*v).toNat
theorem z9o (j:E.P=Tryz.prog) {p a:Nat} {v:Int} {bs rest:List (List IV)} (q:L[p]?=some (yZ bs a)) (ha:bs.drop a=zL (wO v)++rest) (s:zA bs) (u:bs.length<=1099511627776) (m : -2251799813685248<=v) (D:v<=2251799813685248) :
  XT E 97 [.ptr p 0 0] L fun r L'=>r=.int .i64 v/\L'=L.set p (yZ bs (a+(zn (wO v)+1))):=by
 refine xt1 (fn:=Tryz.f97) (rs:=[.tmp 2]) (c:=q97) j fun ρ w=>?_
 unfold q97
 simp only [w,go_sem]
 refine zh (Y1 (E:=E.noPan) j q ha s u (by unfold wO;split<;>omega)) ?_
 rintro r L' ⟨rfl,rfl⟩
 by_cases hc:v<0
 ·have e1:(wO v:Int) = -2*v - 1:=by unfold wO;rw [if_pos hc];omega
  have d:(wO v:Int).tmod 2=1:=by rw [Int.tmod_eq_emod_of_nonneg od];omega
  have B:IntKind.i64.wrap ((wO v:Int)+1) = -2*v:=by rw [e1,wrap64 od od];omega
  have A:IntKind.i64.wrap (0 - -2*v)=2*v:=wR
  have b:(2*v).tdiv 2=v:=Int.mul_tdiv_cancel_left _ (by decide)
  have h:IntKind.i64.wrap v=v:=by rw [wrap64 od od]
  have l:IntKind.i64.wrap 1=1:=by rw [wrap64 od od]
  simp only [d,B,A,b,h,go_sem]
  decide
 ·have e1:(wO v:Int)=2*v:=by unfold wO;rw [if_neg hc];omega
  have d:(wO v:Int).tmod 2=0:=by rw [Int.tmod_eq_emod_of_nonneg od];omega
  have b:(wO v:Int).tdiv 2=v:=by rw [e1];exact Int.mul_tdiv_cancel_left _ (by decide)
  have h:IntKind.i64.wrap v=v:=by rw [wrap64 od od]
  have l:IntKind.i64.wrap 0=0:=by rw [wrap64 od od]
  simp only [d,b,h,go_sem]
  decide
theorem wY (O:E.P=Tryz.prog) {p a:Nat} {s:List UInt8} {bs rest:List (List IV)} (v:L[p]?=some (yZ bs a)) (ha:bs.drop a=zH s++rest) (I:zA bs) (S:bs.length<=1099511627776) (hs:s.length<=1048576) :
  XT E 96 [.ptr p 0 0] L fun r L'=>r=.str s/\L'=L.set p (yZ bs (a+(zH s).length)):=by
 have q:(zk s).length=s.length:=by simp [zk]
 have d:(zH s).length=zn s.length+1+s.length:=by unfold zH;rw [lla,zM,q]
 have u:=z9F ha (by intro h;rw [h] at d;simp only [lln] at d;omega)
 rw [d] at u
 have lp:=zg v
 have lo:lenOf (.isl bs)=some bs.length:=rfl
 refine xt1 (fn:=Tryz.f96) (rs:=[.tmp 2]) (c:=q96) O fun ρ J=>?_
 unfold q96
 simp only [J,go_sem]
 refine zh (WV (E:=E.noPan) (n:=s.length) (rest:=zk s++rest) O v (by rw [ha,zH,List.append_assoc]) I S od od od) ?_
 rintro r L' ⟨rfl,rfl⟩
 obtain ⟨b,j⟩:∃b,a+(zn s.length+1)=b:=⟨_,rfl⟩
 rw [j]
 obtain ⟨L1,l⟩:∃L1,L.set p (yZ bs b)=L1:=⟨_,rfl⟩
 have m:L1[p]?=some (.cells 2 [[.isl bs,.int .i64 b]]):=by rw [<-l,List.getElem?_set_self (zf v)];rfl
 have w:=zg m
 rw [l]
 have D:Rows 1 bs=True:=eq_true (fun r A=>by obtain ⟨n,rfl⟩:=I r A;rfl)
 have U:IntKind.i64.wrap ((bs.length:Int) - (b:Int))=(bs.length:Int) - (b:Int):=wrap64 od od
 have Q:((bs.length:Int) - (b:Int)<(s.length:Int))=False:=fO
 have V:IntKind.i64.wrap ((b:Int)+(s.length:Int))=((b+s.length:Nat):Int):=wR
 have R:IntKind.i64.wrap (((b+s.length:Nat):Int) - (s.length:Int))=(b:Int):=wR
 simp only [J,m,w,zt lo,U,V,R,Q,D,Int.toNat_natCast,go_sem]
 refine ⟨rfl,od,od,?_⟩
 have G:bs.drop b=zk s++rest:=by
  have:=drop_at (rs:=zL s.length) (rest:=zk s++rest) (by rw [ha,zH,List.append_assoc])
  rwa [zM,j] at this
 have B:(bs.take (b+s.length)).drop b=zk s:=by
  rw [List.drop_take,Nat.add_sub_cancel_left,G,<-q,List.take_left]
 rw [B]
 have T:∀M:List Blk,(yG M (.isl (zk s))).bind (zJ byteOf)=some s:=fun M=>by
  show zJ byteOf (zk s)=some s
  exact YK s
 rw [T]
 simp only [go_sem]
 rw [<-l,List.set_set,<-j,d,<-Nat.add_assoc,<-Nat.add_assoc]
 rfl
theorem ze2 (S:E.P=Tryz.prog) {p a:Nat} {b:Bool} {bs rest:List (List IV)} (q:L[p]?=some (yZ bs a)) (ha:bs.drop a=[.int .u8 (if b then 1 else 0)]::rest) (D:zA bs) (T:bs.length<=1099511627776) :
  XT E 148 [.ptr p 0 0] L fun r L'=>r=.bool b/\L'=L.set p (yZ bs (a+1)):=by
 have h:=z9F (rs:=[[.int .u8 (if b then 1 else 0)]]) ha (by simp)
 simp only [llc,lln] at h
 have lp:=zg q
 have lo:lenOf (.isl bs)=some bs.length:=rfl
 have l:=get_at (rs:=[[.int .u8 (if b then 1 else 0)]]) ha (j:=0) (x:=[.int .u8 (if b then 1 else 0)]) rfl
 have d:bs.getD a []=[.int .u8 (if b then 1 else 0)]:=by rw [List.getD_eq_getElem?_getD];simp only [Nat.add_zero] at l;rw [l];rfl
 have A:Rows 1 bs=True:=eq_true (fun r u=>by obtain ⟨n,rfl⟩:=D r u;rfl)
 obtain ⟨v,s⟩:∃v:Int,(if b then 1 else 0)=v:=⟨_,rfl⟩
 have m:((1:Int)<v)=False:=eq_false (by rw [<-s];split<;>decide)
 have B:(decide (v=1))=b:=by rw [<-s];cases b<;>rfl
 rw [s] at d
 unfold yZ at q
 refine xt1 (fn:=Tryz.f148) (rs:=[.tmp 2]) (c:=zkk) S fun ρ O=>?_
 unfold zkk
 have G:((a:Int)=(bs.length:Int))=False:=fO
 have Q:((0:Int)<=(a:Int))=True:=tO
 have J:((a:Int)<(bs.length:Int))=True:=tO
 have f6:(a<bs.length)=True:=tO
 have M:[IV.int .u8 v].length=1:=rfl
 have w:[IV.int .u8 v].getD 0 IV.und=.int .u8 v:=rfl
 have R:IntKind.i64.wrap ((a:Int)+1)=((a+1:Nat):Int):=wR
 have I:IntKind.i64.wrap (((a+1:Nat):Int) - 1)=(a:Int):=wR
 simp only [O,q,lp,zt lo,G,Q,J,f6,d,M,w,A,m,R,I,Int.toNat_natCast,go_sem]
 refine ⟨rfl,rfl,?_⟩
 rw [B]
 exact ⟨rfl,rfl⟩
def z4j (n:Int):IV:=.iface 274 (.agg [.int .i64 n])
theorem zee (d:E.P=Tryz.prog) {e:IV} {n:Int}:XTP E 172 [e,.int .i64 n] L (fun _ _=>False) fun x L'=>x=z4j n/\L'=L:=by
 refine xtl (n:=Tryz.f172.ntmps) (rs:=[]) (c:=zka) (by rw [d];rfl) (by rw [d];kernel_rfl) (by decide) (Nat.le_of_ble_eq_true rfl) ?_
 generalize b:entry _=ρ
 have h:ρ 0=e:=by rw [<-b];rfl
 have h1:ρ 1=.int .i64 n:=by rw [<-b];rfl
 clear b
 unfold zka
 simp only [h1,go_sem]
 exact ⟨rfl,rfl⟩
theorem z90 (m:E.P=Tryz.prog) {p:Nat} {b j:Int} (l:L[p]?=some (yZ [] 0)) :
  XTP E 95 [.ptr p 0 0,.int .i64 b,.int .i64 j] L (fun _ _=>False) fun x L'=>x=z4j 0/\L'=L:=by
 have lp:=zg l
 have lo:lenOf (.isl [])=some 0:=rfl
 unfold yZ at l
 refine xtl (n:=Tryz.f95.ntmps) (rs:=[.tmp 6]) (c:=q95) (by rw [m];rfl) (by rw [m];kernel_rfl) (by decide) (Nat.le_of_ble_eq_true rfl) ?_
 generalize d:entry _=ρ
 have q:ρ 0=.ptr p 0 0:=by rw [<-d];rfl
 have h1:ρ 1=.int .i64 b:=by rw [<-d];rfl
 have h2:ρ 2=.int .i64 j:=by rw [<-d];rfl
 clear d
 unfold q95
 simp only [go_sem]
 refine z9x (fun _ _ _=>False) 0 ?_ (fun _ _ _ h=>h.elim)
 have r:(((0:Nat):Int)=((0:Nat):Int))=True:=eq_true rfl
 simp only [q,l,zt lo,go_sem]
 exact J8 (zee (by exact m)) (fun _ _ h=>h.elim) fun _ _ h=>h
theorem zcK (d:E.P=Tryz.prog) {p:Nat} (j:L[p]?=some (yZ [] 0)):XTP E 147 [.ptr p 0 0] L (fun _ _=>False) fun x L'=>x=z4j 0/\L'=L:=by
 refine xtl (n:=Tryz.f147.ntmps) (rs:=[.tmp 2]) (c:=zh4) (by rw [d];rfl) (by rw [d];kernel_rfl) (by decide) (Nat.le_of_ble_eq_true rfl) ?_
 generalize b:entry _=ρ
 have l:ρ 0=.ptr p 0 0:=by rw [<-b];rfl
 clear b
 unfold zh4
 simp only [l,go_sem]
 exact J8 (z90 (by exact d) j) (fun _ _ h=>h.elim) fun _ _ h=>h
def Reads (E:Env) (L:List Blk) (k:FuncId) (caps:List IV) (bs:List (List IV)) (G:Nat->Prop) (R:IV->List Blk->Prop):Prop:=∀(L1:List Blk) (p:Nat),Keep none' L L1->L.length+3=p->L1.length=p+1->L1[p]?=some (yZ bs 0)->
 XT E k (.ptr p 0 0::caps) L1 fun r L2=>R r L2/\L2[p]?=some (yZ bs bs.length)/\Keep (fun t=>t=p\/G t) L1 L2
def jL (n:Nat) (R:IV->List Blk->Prop):Prop:=∀r M M',Keep (fun t=>n<=t/\t<n+4) M M'->R r M->R r M'
theorem z2N {L L0 L2 M:List Blk} {G:Nat->Prop} {R:IV->List Blk->Prop} {r:IV} {p:Nat} {b:Blk} (k0:Keep none' L L0) (q:L0.length=L.length+3) (w:L0.length=p) (u:Keep (fun t=>t=p\/G t) (L0++[b]) L2)
  (j:Keep (fun t=>t=L.length\/t=L.length+1\/t=L.length+2) L2 M) (d:jL L.length R) (s:R r L2):R r M/\Keep G L M:=by
 refine ⟨d _ _ _ (j.mono fun t _ h=>by omega) s,?_⟩
 have m:Keep none' L (L0++[b]):=Keep.app k0
 have v:Keep G L L2:=(m.mono (F':=G) fun t _ h=>h.elim).trans u fun t l h=>(by rcases h with h | h<;>first | omega | exact h)
 exact v.trans j fun t l h=>by omega
def rNc (N:Nat):XC:=(.seq (.ops [ ⟨(some 9),(.mov (.t 0)),none⟩,⟨(some 10),(.build [.nsl,(.int .i64 0)] [(0,(1,(.t 9)))]),none⟩,⟨(some 11),(.box (.t 10)),none⟩,⟨(some 7),(.mov (.t 11)),none⟩]) (.seq (.ops [ ⟨(some 12),(.mov (.t 1)),none⟩,⟨(some 13),(.mov (.t 7)),none⟩,⟨(some 14),(.call (.t 12) [(.t 13)]),none⟩,⟨none,(.store N (.t 4) (.t 14)),none⟩]) (.seq (.seq (.ops [ ⟨(some 15),(.mov (.t 7)),none⟩,⟨(some 16),(.nilck (.t 15)),none⟩,⟨(some 17),(.fldA 1 (.t 16)),none⟩,⟨(some 18),(.load1 (.t 17)),none⟩,⟨(some 19),(.mov (.t 0)),none⟩,⟨(some 20),(.len (.t 19)),none⟩,⟨(some 21),(.bin .lss (.t 18) (.t 20)),none⟩]) (.cond (.t 21) (.ops [ ⟨(some 22),(.mov (.t 7)),none⟩,⟨(some 23),(.mov (.t 7)),none⟩,⟨(some 24),(.nilck (.t 23)),none⟩,⟨(some 25),(.fldA 1 (.t 24)),none⟩,⟨(some 26),(.load1 (.t 25)),none⟩,⟨(some 27),(.call (.f 172) [(.t 22),(.t 26)]),none⟩]) .skip)) (.seq (.ops [ ⟨(some 28),(.loadN N (.t 4)),none⟩,⟨none,(.store N (.t 4) (.t 28)),none⟩,⟨none,(.store 1 (.t 5) (.c (.int .i64 0))),none⟩,⟨none,(.store 1 (.t 6) (.c (.int .i64 0))),none⟩]) .ret))))
theorem rN_run {N:Nat} {d:List IV} (hz:d.length=N) {k:FuncId} {caps:List IV} {bs:List (List IV)} {G:Nat->Prop} {R:IV->List Blk->Prop} (hc:Reads E L k caps bs G R) (w:jL L.length R) (hG:∀t,G t->t<L.length) (s:∀r M,R r M->∃cs,r=.agg cs/\cs.length=N/\cs.all zG=true) (lo:Nat) (kept:Nat->Value) (B:List Deferred) (Q:IV->List Blk->Prop)
  (J:ρ 0=.isl bs) (h1:ρ 1=.fn (.func k) [] caps) (h4:ρ 4=.ptr L.length 0 0) (h5:ρ 5=.ptr (L.length+1) 0 0) (h6:ρ 6=.ptr (L.length+2) 0 0) :
  Zg (E.defr Q lo kept B) (rNc N) ρ (L++[.cells N [d]]++[.cells 1 [[.int .i64 0]]]++[.cells 1 [[.int .i64 0]]]) fun e ρ' L'=>(e=.ret\/e=.normal)/\ρ' 4=.ptr L.length 0 0/\ρ' 5=.ptr (L.length+1) 0 0/\ρ' 6=.ptr (L.length+2) 0 0/\
   ∃r,R r L'/\L'[L.length]?=some (.cells N [cellsOf r])/\L'[L.length+1]?=some (.cells 1 [[.int .i64 0]])/\L'[L.length+2]?=some (.cells 1 [[.int .i64 0]])/\Keep G L L':=by
 unfold rNc
 simp only [J,h1,go_sem]
 obtain ⟨L0,b⟩:∃L0,L++[Blk.cells N [d]]++[.cells 1 [[.int .i64 0]]]++[.cells 1 [[.int .i64 0]]]=L0:=⟨_,rfl⟩
 have v:L0.length=L.length+3:=by rw [<-b];simp
 have k0:Keep none' L L0:=by rw [<-b];exact kP
 have g0:L0[L.length]?=some (.cells N [d]):=by rw [<-b];simp []
 have g1:L0[L.length+1]?=some (.cells 1 [[.int .i64 0]]):=by rw [<-b];simp []
 have g2:L0[L.length+2]?=some (.cells 1 [[.int .i64 0]]):=by rw [<-b];simp []
 rw [b]
 refine zh (hc (L0++[yZ bs 0]) L0.length (Keep.app k0) od (by simp) (by simp)) ?_
 rintro r L2 ⟨O,q,l⟩
 obtain ⟨p,I⟩:∃p,L0.length=p:=⟨_,rfl⟩
 rw [I] at q l ⊢
 unfold yZ at q
 have D:=l.get (Zu g0) (fun h=>by rcases h with h | h<;>first | omega | (have:=hG _ h;omega))
 have e1:=l.get (Zu g1) (fun h=>by rcases h with h | h<;>first | omega | (have:=hG _ h;omega))
 have T:=l.get (Zu g2) (fun h=>by rcases h with h | h<;>first | omega | (have:=hG _ h;omega))
 have l0:=zg D
 have Y:=zg e1
 have l2:=zg T
 have lp:=zg q
 have q1:(L.length=L.length+1)=False:=fO
 have U:(L.length+1=L.length)=False:=fO
 have q3:(L.length=p)=False:=fO
 have q4:(L.length+1=p)=False:=fO
 have q5:(L.length=L.length+2)=False:=fO
 have q6:(L.length+2=L.length)=False:=fO
 have q7:(L.length+2=p)=False:=fO
 have Z:(L.length+1=L.length+2)=False:=fO
 have q9:(L.length+2=L.length+1)=False:=fO
 have A:lenOf (.isl bs)=some bs.length:=rfl
 have V:((bs.length:Int)<(bs.length:Int))=False:=fO
 obtain ⟨cs,rfl,m,j⟩:=s _ _ O
 have z1:0+N=N:=by omega
 have z2:(N<=N)=True:=tO
 have z3:d.drop N=[]:=List.drop_of_length_le od
 have u:cellsOf (.agg cs)=cs:=rfl
 simp only [J,h4,h5,h6,D,e1,T,l0,Y,l2,q,q1,U,q3,q5,q6,Z,q9,zt A,V,m,j,u,hz,z1,z2,z3,go_sem]
 have X:cs.take N=cs:=List.take_of_length_le od
 have hd:cs.drop cs.length=[]:=by simp
 simp only [X,hd,List.append_nil]
 refine ⟨m,j,?_⟩
 have S:=z2N k0 v I l (M:=((((L2.set L.length (Blk.cells N [cs])).set L.length (Blk.cells N [cs])).set (L.length+1) (Blk.cells 1 [[IV.int IntKind.i64 0]])).set (L.length+2) (Blk.cells 1 [[IV.int IntKind.i64 0]]))) kQ w O
 exact ⟨.inl trivial,_,S.1,rfl,S.2⟩
def r1c : XC :=(sO [oM 9 0,oO 10 (.build [.nsl,(.int .i64 0)] [(0,(1,(.t 9)))]),oO 11 (.box (.t 10)),oM 7 11] (sO [oM 12 1,oM 13 7,oO 14 (.call (.t 12) [.t 13]),oS 4 14] (.seq (sO [oM 15 7,oN 16 15,oF 17 1 16,oL 18 17,oM 19 0,oY 20 19,oB 21 .lss 18 20] (cT 21 (.ops [oM 22 7,oM 23 7,oN 24 23,oF 25 1 24,oL 26 25,oC 27 172 [.t 22,.t 26]]) .skip)) (sO [oL 28 4,oS 4 28,oU (.store 1 (.t 5) (oi 0)),oU (.store 1 (.t 6) (oi 0))] .ret))))
theorem r1_run {m:IV} {k:FuncId} {caps:List IV} {bs:List (List IV)} {G:Nat->Prop} {R:IV->List Blk->Prop} (hc:Reads E L k caps bs G R) (w:jL L.length R) (hG:∀t,G t->t<L.length) (q:∀r M,R r M->∃v,r=v/\cellsOf v=[v]/\zG v=true) (lo:Nat) (kept:Nat->Value) (B:List Deferred) (Q:IV->List Blk->Prop)
  (J:ρ 0=.isl bs) (h1:ρ 1=.fn (.func k) [] caps) (h4:ρ 4=.ptr L.length 0 0) (h5:ρ 5=.ptr (L.length+1) 0 0) (h6:ρ 6=.ptr (L.length+2) 0 0) :
  Zg (E.defr Q lo kept B) r1c ρ (L++[.cells 1 [[m]]]++[.cells 1 [[.int .i64 0]]]++[.cells 1 [[.int .i64 0]]]) fun e ρ' L'=>(e=.ret\/e=.normal)/\ρ' 4=.ptr L.length 0 0/\ρ' 5=.ptr (L.length+1) 0 0/\ρ' 6=.ptr (L.length+2) 0 0/\
   ∃r,R r L'/\L'[L.length]?=some (.cells 1 [cellsOf r])/\L'[L.length+1]?=some (.cells 1 [[.int .i64 0]])/\L'[L.length+2]?=some (.cells 1 [[.int .i64 0]])/\Keep G L L':=by
 unfold r1c
 simp only [J,h1,go_sem]
 obtain ⟨L0,b⟩:∃L0,L++[Blk.cells 1 [[m]]]++[.cells 1 [[.int .i64 0]]]++[.cells 1 [[.int .i64 0]]]=L0:=⟨_,rfl⟩
 have s:L0.length=L.length+3:=by rw [<-b];simp
 have k0:Keep none' L L0:=by rw [<-b];exact kP
 have g0:L0[L.length]?=some (.cells 1 [[m]]):=by rw [<-b];simp []
 have g1:L0[L.length+1]?=some (.cells 1 [[.int .i64 0]]):=by rw [<-b];simp []
 have Z:L0[L.length+2]?=some (.cells 1 [[.int .i64 0]]):=by rw [<-b];simp []
 rw [b]
 refine zh (hc (L0++[yZ bs 0]) L0.length (Keep.app k0) od (by simp) (by simp)) ?_
 rintro r L2 ⟨O,l,d⟩
 obtain ⟨p,I⟩:∃p,L0.length=p:=⟨_,rfl⟩
 rw [I] at l d ⊢
 unfold yZ at l
 have D:=d.get (Zu g0) (fun h=>by rcases h with h | h<;>first | omega | (have:=hG _ h;omega))
 have e1:=d.get (Zu g1) (fun h=>by rcases h with h | h<;>first | omega | (have:=hG _ h;omega))
 have T:=d.get (Zu Z) (fun h=>by rcases h with h | h<;>first | omega | (have:=hG _ h;omega))
 have l0:=zg D
 have X:=zg e1
 have l2:=zg T
 have lp:=zg l
 have q1:(L.length=L.length+1)=False:=fO
 have U:(L.length+1=L.length)=False:=fO
 have q3:(L.length=p)=False:=fO
 have q4:(L.length+1=p)=False:=fO
 have q5:(L.length=L.length+2)=False:=fO
 have q6:(L.length+2=L.length)=False:=fO
 have q7:(L.length+2=p)=False:=fO
 have Y:(L.length+1=L.length+2)=False:=fO
 have q9:(L.length+2=L.length+1)=False:=fO
 have A:lenOf (.isl bs)=some bs.length:=rfl
 have V:((bs.length:Int)<(bs.length:Int))=False:=fO
 obtain ⟨v,rfl,j,u⟩:=q _ _ O
 simp only [J,h4,h5,h6,D,e1,T,l0,X,l2,l,q1,U,q3,q5,q6,Y,q9,zt A,V,j,u,go_sem]
 have S:=z2N k0 s I d (M:=((((L2.set L.length (Blk.cells 1 [[r]])).set L.length (Blk.cells 1 [[r]])).set (L.length+1) (Blk.cells 1 [[IV.int IntKind.i64 0]])).set (L.length+2) (Blk.cells 1 [[IV.int IntKind.i64 0]]))) kQ w O
 exact ⟨.inl trivial,_,S.1,by rw [j],S.2⟩
def zfQ : XC :=(.ops [oO 4 (.alloc [(.int .i64 0),(.int .i64 0)]),oO 5 (.alloc [(.int .i64 0)]),oO 6 (.alloc [(.int .i64 0)])])
theorem z4l:z4n Tryz.prog 350 3:=by
 intro vs w j
 match vs,j with
 | [p,q,r],_=>
 have d:∀w:World,(binOp BinOp.eql 20 .nilIface .nilIface).run Tryz.prog w=.ok (.bool true) w:=fun _=>by kernel_rfl
 refine callsD_of_wpS Tryz.func350 rfl fun b cs h=>?_
 apply wpS_seq
 apply wpS_region
 simp [wpOpsS,go_sem,recoverD,h,Tryz.ntmps350,Exit.thenS]
 refine wpS_of_wp ?_
 go_wp
 cases b
 simp_all [bodyPostS,results,Tryz.results350]
theorem zb1 (l:E.P=Tryz.prog) {k:FuncId} {caps:List IV} {bs:List (List IV)} {G:Nat->Prop} {R:IV->List Blk->Prop} (hc:Reads E L k caps bs G R) (D:jL L.length R) (hG:∀t,G t->t<L.length) (m:∀r M,R r M->∃cs,r=.agg cs/\cs.length=2/\cs.all zG=true) :
  XT E 314 [.isl bs,.fn (.func k) [] caps] L fun r L'=>∃v,r=.tup [v,.int .i64 0,.int .i64 0]/\R v L'/\Keep G L L':=by
 refine YA (fn:=Tryz.f314) (x1:=zfQ) (x3:=rNc 2) (rs:=[.cellN 4 2,.cell1 5,.cell1 6]) (d:=8) (k:=350) (lo:=7) (caps:=[4,5,6])
  (M:=fun b L1=>b 0=.isl bs/\b 1=.fn (.func k) [] caps/\b 4=.ptr L.length 0 0/\b 5=.ptr (L.length+1) 0 0/\b 6=.ptr (L.length+2) 0 0/\L1=L++[.cells 2 [[(.int .i64 0),(.int .i64 0)]]]++[.cells 1 [[.int .i64 0]]]++[.cells 1 [[.int .i64 0]]]) (PQ:=fun _ _ _=>False)
  (by rw [l];rfl) rfl (by decide) (Nat.le_of_ble_eq_true rfl) (by decide) (by rw [l];kernel_rfl) (by rw [l];kernel_rfl) (by rw [l];kernel_rfl) (by rfl) ⟨Tryz.f350,by rw [l];rfl,by decide,by rfl⟩ ?_ (by rfl) ?_ ?_ ?_ (by rw [l];exact z4l)
 ·intro Q a w hd S h
  apply wp_region
  obtain ⟨T,df⟩:=a
  simp only at hd S
  subst hd
  have I:8<T.size:=by rw [S];decide
  have O:∀v:Value,(T.setIfInBounds 8 v).getD 8 undef=v:=fun v=>by rw [yN I,if_pos rfl]
  have ae:∀(fn:Fn) (first cap:Array Value) (w:World),(Instr.makeFunc fn first cap).run E.P w=.ok (.func fn first cap) w:=fun _ _ _ _=>rfl
  have Y:(List.range 2)=[0,1]:=rfl
  show wpOps E.P _ Q [0,1] _ w
  simp [wpOps,Oper.wp,Oper.upon,Region.wanted,go_sem,Act.eval,Act.put,O,execOp,resolve,Deferred.ofValue]
  refine .inl (.inl ?_)
  simpa using h
 ·generalize j:entry _=ρ
  have A:ρ 0=.isl bs:=by rw [<-j];rfl
  have h1:ρ 1=.fn (.func k) [] caps:=by rw [<-j];rfl
  clear j
  unfold zfQ
  simp only [go_sem]
  exact ⟨A,h1,by simp [put]⟩
 ·rintro b L1 ⟨A,h1,h4,I,h6,rfl⟩ kept B
  refine zK _ (fun e ρ' L' h=>?_) (rN_run (N:=2) rfl hc D hG m 7 kept B (fun _ _=>False) (by simp only [A,go_sem]) (by simp only [h1,go_sem]) (by simp only [h4,go_sem]) (by simp only [I,go_sem]) (by simp only [h6,go_sem]))
  obtain ⟨X,g4,g5,g6,v,U,p,q,s,hk⟩:=h
  refine ⟨X,?_⟩
  have l0:=zg p
  have l1:=zg q
  have l2:=zg s
  obtain ⟨cs,rfl,J,Z⟩:=m _ _ U
  have u:cellsOf (.agg cs)=cs:=rfl
  simp only [Y6,YQ,Zk,ZJ,g4,g5,g6,p,q,s,J,u,go_sem]
  have V:cs.take 2=cs:=List.take_of_length_le od
  simp only [V]
  exact ⟨_,rfl,U,hk⟩
 ·rintro b L1 x L' _ h
  exact h.elim
def zck : XC :=(.ops [oO 4 (.alloc [(.int .i64 0)]),oO 5 (.alloc [(.int .i64 0)]),oO 6 (.alloc [(.int .i64 0)])])
theorem JV:z4n Tryz.prog 208 3:=by
 intro vs w j
 match vs,j with
 | [p,q,r],_=>
 have d:∀w:World,(binOp BinOp.eql 20 .nilIface .nilIface).run Tryz.prog w=.ok (.bool true) w:=fun _=>by kernel_rfl
 refine callsD_of_wpS Tryz.func208 rfl fun b cs h=>?_
 apply wpS_seq
 apply wpS_region
 simp [wpOpsS,go_sem,recoverD,h,Tryz.ntmps208,Exit.thenS]
 refine wpS_of_wp ?_
 go_wp
 cases b
 simp_all [bodyPostS,results,Tryz.results208]
theorem zb5 (l:E.P=Tryz.prog) {k:FuncId} {caps:List IV} {bs:List (List IV)} {G:Nat->Prop} {R:IV->List Blk->Prop} (hc:Reads E L k caps bs G R) (A:jL L.length R) (hG:∀t,G t->t<L.length) (m:∀r M,R r M->∃v,r=v/\cellsOf v=[v]/\zG v=true) :
  XT E 149 [.isl bs,.fn (.func k) [] caps] L fun r L'=>∃v,r=.tup [v,.int .i64 0,.int .i64 0]/\R v L'/\Keep G L L':=by
 refine YA (fn:=Tryz.f149) (x1:=zck) (x3:=r1c) (rs:=[.cell1 4,.cell1 5,.cell1 6]) (d:=8) (k:=208) (lo:=7) (caps:=[4,5,6])
  (M:=fun b L1=>b 0=.isl bs/\b 1=.fn (.func k) [] caps/\b 4=.ptr L.length 0 0/\b 5=.ptr (L.length+1) 0 0/\b 6=.ptr (L.length+2) 0 0/\L1=L++[.cells 1 [[(.int .i64 0)]]]++[.cells 1 [[.int .i64 0]]]++[.cells 1 [[.int .i64 0]]]) (PQ:=fun _ _ _=>False)
  (by rw [l];rfl) rfl (by decide) (Nat.le_of_ble_eq_true rfl) (by decide) (by rw [l];kernel_rfl) (by rw [l];kernel_rfl) (by rw [l];kernel_rfl) (by rfl) ⟨Tryz.f208,by rw [l];rfl,by decide,by rfl⟩ ?_ (by rfl) ?_ ?_ ?_ (by rw [l];exact JV)
 ·intro Q a w hd O h
  apply wp_region
  obtain ⟨S,df⟩:=a
  simp only at hd O
  subst hd
  have D:8<S.size:=by rw [O];decide
  have J:∀v:Value,(S.setIfInBounds 8 v).getD 8 undef=v:=fun v=>by rw [yN D,if_pos rfl]
  have ae:∀(fn:Fn) (first cap:Array Value) (w:World),(Instr.makeFunc fn first cap).run E.P w=.ok (.func fn first cap) w:=fun _ _ _ _=>rfl
  have V:(List.range 2)=[0,1]:=rfl
  show wpOps E.P _ Q [0,1] _ w
  simp [wpOps,Oper.wp,Oper.upon,Region.wanted,go_sem,Act.eval,Act.put,J,execOp,resolve,Deferred.ofValue]
  refine .inl (.inl ?_)
  simpa using h
 ·generalize j:entry _=ρ
  have u:ρ 0=.isl bs:=by rw [<-j];rfl
  have h1:ρ 1=.fn (.func k) [] caps:=by rw [<-j];rfl
  clear j
  unfold zck
  simp only [go_sem]
  exact ⟨u,h1,by simp [put]⟩
 ·rintro b L1 ⟨u,h1,h4,D,Z,rfl⟩ kept B
  refine zK _ (fun e ρ' L' h=>?_) (r1_run hc A hG m 7 kept B (fun _ _=>False) (by simp only [u,go_sem]) (by simp only [h1,go_sem]) (by simp only [h4,go_sem]) (by simp only [D,go_sem]) (by simp only [Z,go_sem]))
  obtain ⟨U,g4,Y,g6,v,T,p,q,s,hk⟩:=h
  refine ⟨U,?_⟩
  have l0:=zg p
  have l1:=zg q
  have l2:=zg s
  obtain ⟨v,rfl,I,X⟩:=m _ _ T
  simp only [Y6,YQ,ZJ,g4,Y,g6,p,q,s,I,go_sem]
  exact ⟨_,rfl,T,hk⟩
 ·rintro b L1 x L' _ h
  exact h.elim
def zg9 : XC :=(.ops [oO 4 (.alloc [(.str []),(.str []),(.str []),(.str []),(.int .i64 0),(.str []),.nsl,.nsl,(.int .i64 0)]),oO 5 (.alloc [(.int .i64 0)]),oO 6 (.alloc [(.int .i64 0)])])
theorem z5f:z4n Tryz.prog 257 3:=by
 intro vs w j
 match vs,j with
 | [p,q,r],_=>
 have d:∀w:World,(binOp BinOp.eql 20 .nilIface .nilIface).run Tryz.prog w=.ok (.bool true) w:=fun _=>by kernel_rfl
 refine callsD_of_wpS Tryz.func257 rfl fun b cs h=>?_
 apply wpS_seq
 apply wpS_region
 simp [wpOpsS,go_sem,recoverD,h,Tryz.ntmps257,Exit.thenS]
 refine wpS_of_wp ?_
 go_wp
 cases b
 simp_all [bodyPostS,results,Tryz.results257]
theorem z8T (l:E.P=Tryz.prog) {k:FuncId} {caps:List IV} {bs:List (List IV)} {G:Nat->Prop} {R:IV->List Blk->Prop} (hc:Reads E L k caps bs G R) (D:jL L.length R) (hG:∀t,G t->t<L.length) (m:∀r M,R r M->∃cs,r=.agg cs/\cs.length=9/\cs.all zG=true) :
  XT E 192 [.isl bs,.fn (.func k) [] caps] L fun r L'=>∃v,r=.tup [v,.int .i64 0,.int .i64 0]/\R v L'/\Keep G L L':=by
 refine YA (fn:=Tryz.f192) (x1:=zg9) (x3:=rNc 9) (rs:=[.cellN 4 9,.cell1 5,.cell1 6]) (d:=8) (k:=257) (lo:=7) (caps:=[4,5,6])
  (M:=fun b L1=>b 0=.isl bs/\b 1=.fn (.func k) [] caps/\b 4=.ptr L.length 0 0/\b 5=.ptr (L.length+1) 0 0/\b 6=.ptr (L.length+2) 0 0/\L1=L++[.cells 9 [[(.str []),(.str []),(.str []),(.str []),(.int .i64 0),(.str []),.nsl,.nsl,(.int .i64 0)]]]++[.cells 1 [[.int .i64 0]]]++[.cells 1 [[.int .i64 0]]]) (PQ:=fun _ _ _=>False)
  (by rw [l];rfl) rfl (by decide) (Nat.le_of_ble_eq_true rfl) (by decide) (by rw [l];kernel_rfl) (by rw [l];kernel_rfl) (by rw [l];kernel_rfl) (by rfl) ⟨Tryz.f257,by rw [l];rfl,by decide,by rfl⟩ ?_ (by rfl) ?_ ?_ ?_ (by rw [l];exact z5f)
 ·intro Q a w hd S h
  apply wp_region
  obtain ⟨T,df⟩:=a
  simp only at hd S
  subst hd
  have I:8<T.size:=by rw [S];decide
  have O:∀v:Value,(T.setIfInBounds 8 v).getD 8 undef=v:=fun v=>by rw [yN I,if_pos rfl]
  have ae:∀(fn:Fn) (first cap:Array Value) (w:World),(Instr.makeFunc fn first cap).run E.P w=.ok (.func fn first cap) w:=fun _ _ _ _=>rfl
  have Y:(List.range 2)=[0,1]:=rfl
  show wpOps E.P _ Q [0,1] _ w
  simp [wpOps,Oper.wp,Oper.upon,Region.wanted,go_sem,Act.eval,Act.put,O,execOp,resolve,Deferred.ofValue]
  refine .inl (.inl ?_)
  simpa using h
 ·generalize j:entry _=ρ
  have A:ρ 0=.isl bs:=by rw [<-j];rfl
  have h1:ρ 1=.fn (.func k) [] caps:=by rw [<-j];rfl
  clear j
  unfold zg9
  simp only [go_sem]
  exact ⟨A,h1,by simp [put]⟩
 ·rintro b L1 ⟨A,h1,h4,I,h6,rfl⟩ kept B
  refine zK _ (fun e ρ' L' h=>?_) (rN_run (N:=9) rfl hc D hG m 7 kept B (fun _ _=>False) (by simp only [A,go_sem]) (by simp only [h1,go_sem]) (by simp only [h4,go_sem]) (by simp only [I,go_sem]) (by simp only [h6,go_sem]))
  obtain ⟨X,g4,g5,g6,v,U,p,q,s,hk⟩:=h
  refine ⟨X,?_⟩
  have l0:=zg p
  have l1:=zg q
  have l2:=zg s
  obtain ⟨cs,rfl,J,Z⟩:=m _ _ U
  have u:cellsOf (.agg cs)=cs:=rfl
  simp only [Y6,YQ,Zk,ZJ,g4,g5,g6,p,q,s,J,u,go_sem]
  have V:cs.take 9=cs:=List.take_of_length_le od
  simp only [V]
  exact ⟨_,rfl,U,hk⟩
 ·rintro b L1 x L' _ h
  exact h.elim
def zgg : XC :=(.ops [oO 4 (.alloc [(.int .i64 0),(.raw (.complex .f64 0 0)),(.str []),(.str []),(.int .i64 0),(.int .i64 0),(.int .i64 0),(.str []),(.str []),(.str []),(.str []),(.str []),(.int .i64 0)]),oO 5 (.alloc [(.int .i64 0)]),oO 6 (.alloc [(.int .i64 0)])])
theorem z4S:z4n Tryz.prog 300 3:=by
 intro vs w j
 match vs,j with
 | [p,q,r],_=>
 have d:∀w:World,(binOp BinOp.eql 20 .nilIface .nilIface).run Tryz.prog w=.ok (.bool true) w:=fun _=>by kernel_rfl
 refine callsD_of_wpS Tryz.func300 rfl fun b cs h=>?_
 apply wpS_seq
 apply wpS_region
 simp [wpOpsS,go_sem,recoverD,h,Tryz.ntmps300,Exit.thenS]
 refine wpS_of_wp ?_
 go_wp
 cases b
 simp_all [bodyPostS,results,Tryz.results300]
theorem z8H (l:E.P=Tryz.prog) {k:FuncId} {caps:List IV} {bs:List (List IV)} {G:Nat->Prop} {R:IV->List Blk->Prop} (hc:Reads E L k caps bs G R) (D:jL L.length R) (hG:∀t,G t->t<L.length) (m:∀r M,R r M->∃cs,r=.agg cs/\cs.length=13/\cs.all zG=true) :
  XT E 237 [.isl bs,.fn (.func k) [] caps] L fun r L'=>∃v,r=.tup [v,.int .i64 0,.int .i64 0]/\R v L'/\Keep G L L':=by
 refine YA (fn:=Tryz.f237) (x1:=zgg) (x3:=rNc 13) (rs:=[.cellN 4 13,.cell1 5,.cell1 6]) (d:=8) (k:=300) (lo:=7) (caps:=[4,5,6])
  (M:=fun b L1=>b 0=.isl bs/\b 1=.fn (.func k) [] caps/\b 4=.ptr L.length 0 0/\b 5=.ptr (L.length+1) 0 0/\b 6=.ptr (L.length+2) 0 0/\L1=L++[.cells 13 [[(.int .i64 0),(.raw (.complex .f64 0 0)),(.str []),(.str []),(.int .i64 0),(.int .i64 0),(.int .i64 0),(.str []),(.str []),(.str []),(.str []),(.str []),(.int .i64 0)]]]++[.cells 1 [[.int .i64 0]]]++[.cells 1 [[.int .i64 0]]]) (PQ:=fun _ _ _=>False)
  (by rw [l];rfl) rfl (by decide) (Nat.le_of_ble_eq_true rfl) (by decide) (by rw [l];kernel_rfl) (by rw [l];kernel_rfl) (by rw [l];kernel_rfl) (by rfl) ⟨Tryz.f300,by rw [l];rfl,by decide,by rfl⟩ ?_ (by rfl) ?_ ?_ ?_ (by rw [l];exact z4S)
 ·intro Q a w hd S h
  apply wp_region
  obtain ⟨T,df⟩:=a
  simp only at hd S
  subst hd
  have I:8<T.size:=by rw [S];decide
  have O:∀v:Value,(T.setIfInBounds 8 v).getD 8 undef=v:=fun v=>by rw [yN I,if_pos rfl]
  have ae:∀(fn:Fn) (first cap:Array Value) (w:World),(Instr.makeFunc fn first cap).run E.P w=.ok (.func fn first cap) w:=fun _ _ _ _=>rfl
  have Y:(List.range 2)=[0,1]:=rfl
  show wpOps E.P _ Q [0,1] _ w
  simp [wpOps,Oper.wp,Oper.upon,Region.wanted,go_sem,Act.eval,Act.put,O,execOp,resolve,Deferred.ofValue]
  refine .inl (.inl ?_)
  simpa using h
 ·generalize j:entry _=ρ
  have A:ρ 0=.isl bs:=by rw [<-j];rfl
  have h1:ρ 1=.fn (.func k) [] caps:=by rw [<-j];rfl
  clear j
  unfold zgg
  simp only [go_sem]
  exact ⟨A,h1,by simp [put]⟩
 ·rintro b L1 ⟨A,h1,h4,I,h6,rfl⟩ kept B
  refine zK _ (fun e ρ' L' h=>?_) (rN_run (N:=13) rfl hc D hG m 7 kept B (fun _ _=>False) (by simp only [A,go_sem]) (by simp only [h1,go_sem]) (by simp only [h4,go_sem]) (by simp only [I,go_sem]) (by simp only [h6,go_sem]))
  obtain ⟨X,g4,g5,g6,v,U,p,q,s,hk⟩:=h
  refine ⟨X,?_⟩
  have l0:=zg p
  have l1:=zg q
  have l2:=zg s
  obtain ⟨cs,rfl,J,Z⟩:=m _ _ U
  have u:cellsOf (.agg cs)=cs:=rfl
  simp only [Y6,YQ,Zk,ZJ,g4,g5,g6,p,q,s,J,u,go_sem]
  have V:cs.take 13=cs:=List.take_of_length_le od
  simp only [V]
  exact ⟨_,rfl,U,hk⟩
 ·rintro b L1 x L' _ h
  exact h.elim
def zfL : XC :=(.ops [oO 4 (.alloc [.nsl]),oO 5 (.alloc [(.int .i64 0)]),oO 6 (.alloc [(.int .i64 0)])])
theorem z4Y:z4n Tryz.prog 207 3:=by
 intro vs w j
 match vs,j with
 | [p,q,r],_=>
 have d:∀w:World,(binOp BinOp.eql 20 .nilIface .nilIface).run Tryz.prog w=.ok (.bool true) w:=fun _=>by kernel_rfl
 refine callsD_of_wpS Tryz.func207 rfl fun b cs h=>?_
 apply wpS_seq
 apply wpS_region
 simp [wpOpsS,go_sem,recoverD,h,Tryz.ntmps207,Exit.thenS]
 refine wpS_of_wp ?_
 go_wp
 cases b
 simp_all [bodyPostS,results,Tryz.results207]
theorem z9h (l:E.P=Tryz.prog) {k:FuncId} {caps:List IV} {bs:List (List IV)} {G:Nat->Prop} {R:IV->List Blk->Prop} (hc:Reads E L k caps bs G R) (A:jL L.length R) (hG:∀t,G t->t<L.length) (m:∀r M,R r M->∃v,r=v/\cellsOf v=[v]/\zG v=true) :
  XT E 145 [.isl bs,.fn (.func k) [] caps] L fun r L'=>∃v,r=.tup [v,.int .i64 0,.int .i64 0]/\R v L'/\Keep G L L':=by
 refine YA (fn:=Tryz.f145) (x1:=zfL) (x3:=r1c) (rs:=[.cell1 4,.cell1 5,.cell1 6]) (d:=8) (k:=207) (lo:=7) (caps:=[4,5,6])
  (M:=fun b L1=>b 0=.isl bs/\b 1=.fn (.func k) [] caps/\b 4=.ptr L.length 0 0/\b 5=.ptr (L.length+1) 0 0/\b 6=.ptr (L.length+2) 0 0/\L1=L++[.cells 1 [[.nsl]]]++[.cells 1 [[.int .i64 0]]]++[.cells 1 [[.int .i64 0]]]) (PQ:=fun _ _ _=>False)
  (by rw [l];rfl) rfl (by decide) (Nat.le_of_ble_eq_true rfl) (by decide) (by rw [l];kernel_rfl) (by rw [l];kernel_rfl) (by rw [l];kernel_rfl) (by rfl) ⟨Tryz.f207,by rw [l];rfl,by decide,by rfl⟩ ?_ (by rfl) ?_ ?_ ?_ (by rw [l];exact z4Y)
 ·intro Q a w hd O h
  apply wp_region
  obtain ⟨S,df⟩:=a
  simp only at hd O
  subst hd
  have D:8<S.size:=by rw [O];decide
  have J:∀v:Value,(S.setIfInBounds 8 v).getD 8 undef=v:=fun v=>by rw [yN D,if_pos rfl]
  have ae:∀(fn:Fn) (first cap:Array Value) (w:World),(Instr.makeFunc fn first cap).run E.P w=.ok (.func fn first cap) w:=fun _ _ _ _=>rfl
  have V:(List.range 2)=[0,1]:=rfl
  show wpOps E.P _ Q [0,1] _ w
  simp [wpOps,Oper.wp,Oper.upon,Region.wanted,go_sem,Act.eval,Act.put,J,execOp,resolve,Deferred.ofValue]
  refine .inl (.inl ?_)
  simpa using h
 ·generalize j:entry _=ρ
  have u:ρ 0=.isl bs:=by rw [<-j];rfl
  have h1:ρ 1=.fn (.func k) [] caps:=by rw [<-j];rfl
  clear j
  unfold zfL
  simp only [go_sem]
  exact ⟨u,h1,by simp [put]⟩
 ·rintro b L1 ⟨u,h1,h4,D,Z,rfl⟩ kept B
  refine zK _ (fun e ρ' L' h=>?_) (r1_run hc A hG m 7 kept B (fun _ _=>False) (by simp only [u,go_sem]) (by simp only [h1,go_sem]) (by simp only [h4,go_sem]) (by simp only [D,go_sem]) (by simp only [Z,go_sem]))
  obtain ⟨U,g4,Y,g6,v,T,p,q,s,hk⟩:=h
  refine ⟨U,?_⟩
  have l0:=zg p
  have l1:=zg q
  have l2:=zg s
  obtain ⟨v,rfl,I,X⟩:=m _ _ T
  simp only [Y6,YQ,ZJ,g4,Y,g6,p,q,s,I,go_sem]
  exact ⟨_,rfl,T,hk⟩
 ·rintro b L1 x L' _ h
  exact h.elim
def zjb : XC :=(.block 0 (sO [oO 9 (.isNil 1 false (.t 7))] (cT 9 (.ops [oM 3 7]) (sO [oO 10 (.ex (.tas 274) [.t 7]),oX 11 1 10,oX 12 0 10] (cT 11 (sO [oO 4 (.alloc [(.int .i64 0)]),oS 4 12] (sO [oI 5 0] (.drawR [(oM 13 5,([],false)),(oF 14 0 4,([],false)),(oL 15 14,([],true)),(oS 0 13,([2],false)),(oS 1 15,([],false)),(oU (.store 1 (.t 2) (oi 2)),([],false))]))) (sO [oM 6 7] (.ops [oM 8 6,oU (.ex .panic [.t 8])])))))))
theorem zbE {x y z n:Int} (M:List Blk) (p:Nat) (j:M[p]?=some (.cells 1 [[.int .i64 x]])) (h:M[p+1]?=some (.cells 1 [[.int .i64 y]])) (d:M[p+2]?=some (.cells 1 [[.int .i64 z]])) :
  Zg (E.defr (fun _ _=>False) 0 (fun _=>undef) []) zjb (put (entry [.ptr p 0 0,.ptr (p+1) 0 0,.ptr (p+2) 0 0]) (some 7) (z4j n)) M
  fun e _ L'=>(e=.ret\/e=.normal)/\L'[p]?=some (.cells 1 [[.int .i64 0]])/\L'[p+1]?=some (.cells 1 [[.int .i64 n]])/\L'[p+2]?=some (.cells 1 [[.int .i64 2]])/\Keep (fun t=>t=p\/t=p+1\/t=p+2) M L':=by
 generalize b:entry [.ptr p 0 0,.ptr (p+1) 0 0,.ptr (p+2) 0 0]=ρ
 have q:ρ 0=.ptr p 0 0:=by rw [<-b];rfl
 have h1:ρ 1=.ptr (p+1) 0 0:=by rw [<-b];rfl
 have h2:ρ 2=.ptr (p+2) 0 0:=by rw [<-b];rfl
 clear b
 have s:=zg j
 have r:=zg h
 have m:=zg d
 have u:(p=p+1)=False:=fO
 have l:(p+1=p)=False:=fO
 have v:(p=p+2)=False:=fO
 have q4:(p+2=p)=False:=fO
 have q5:(p+1=p+2)=False:=fO
 have q6:(p+2=p+1)=False:=fO
 unfold zjb z4j
 simp only [q,h1,h2,j,h,d,s,r,m,u,l,v,q4,q5,q6,go_sem]
 exact ⟨.inr trivial,kQ⟩
def Stops (E:Env) (L:List Blk) (k:FuncId) (caps:List IV) (bs:List (List IV)):Prop:=∀(L1:List Blk) (p:Nat),Keep none' L L1->L1[p]?=some (yZ bs 0)->XTP E k (.ptr p 0 0::caps) L1 (fun _ _=>False) fun x L2=>x=z4j 0/\L2=L1
theorem z8d (l:E.P=Tryz.prog) {k:FuncId} {caps:List IV} {bs:List (List IV)} (hc:Stops E L k caps bs) :
  XT E 149 [.isl bs,.fn (.func k) [] caps] L fun r L'=>r=.tup [.int .i64 0,.int .i64 0,.int .i64 2]/\Keep none' L L':=by
 let L0:=L++[Blk.cells 1 [[.int .i64 0]]]++[.cells 1 [[.int .i64 0]]]++[.cells 1 [[.int .i64 0]]]
 have k0:Keep none' L L0:=by show Keep none' L (L++[Blk.cells 1 [[.int .i64 0]]]++[.cells 1 [[.int .i64 0]]]++[.cells 1 [[.int .i64 0]]]);exact kP
 have g0:L0[L.length]?=some (.cells 1 [[.int .i64 0]]):=by show (L++[Blk.cells 1 [[.int .i64 0]]]++[.cells 1 [[.int .i64 0]]]++[.cells 1 [[.int .i64 0]]])[L.length]?=_;simp []
 have Z:L0[L.length+1]?=some (.cells 1 [[.int .i64 0]]):=by show (L++[Blk.cells 1 [[.int .i64 0]]]++[.cells 1 [[.int .i64 0]]]++[.cells 1 [[.int .i64 0]]])[L.length+1]?=_;simp []
 have U:L0[L.length+2]?=some (.cells 1 [[.int .i64 0]]):=by show (L++[Blk.cells 1 [[.int .i64 0]]]++[.cells 1 [[.int .i64 0]]]++[.cells 1 [[.int .i64 0]]])[L.length+2]?=_;simp []
 refine YA (fn:=Tryz.f149) (x1:=zck) (x3:=r1c) (rs:=[.cell1 4,.cell1 5,.cell1 6]) (d:=8) (k:=208) (lo:=7) (caps:=[4,5,6])
  (M:=fun b L1=>b 0=.isl bs/\b 1=.fn (.func k) [] caps/\b 4=.ptr L.length 0 0/\b 5=.ptr (L.length+1) 0 0/\b 6=.ptr (L.length+2) 0 0/\L1=L0) (PQ:=fun _ x M=>x=z4j 0/\M=L0++[yZ bs 0])
  (by rw [l];rfl) rfl (by decide) (Nat.le_of_ble_eq_true rfl) (by decide) (by rw [l];kernel_rfl) (by rw [l];kernel_rfl) (by rw [l];kernel_rfl) (by rfl) ⟨Tryz.f208,by rw [l];rfl,by decide,by rfl⟩ ?_ (by rfl) ?_ ?_ ?_ (by rw [l];exact JV)
 ·intro Q a w hd G h
  apply wp_region
  obtain ⟨I,df⟩:=a
  simp only at hd G
  subst hd
  have p:8<I.size:=by rw [G];decide
  have A:∀v:Value,(I.setIfInBounds 8 v).getD 8 undef=v:=fun v=>by rw [yN p,if_pos rfl]
  have Y:∀(fn:Fn) (first cap:Array Value) (w:World),(Instr.makeFunc fn first cap).run E.P w=.ok (.func fn first cap) w:=fun _ _ _ _=>rfl
  have S:(List.range 2)=[0,1]:=rfl
  show wpOps E.P _ Q [0,1] _ w
  simp [wpOps,Oper.wp,Oper.upon,Region.wanted,go_sem,Act.eval,Act.put,A,execOp,resolve,Deferred.ofValue]
  refine .inl (.inl ?_)
  simpa using h
 ·generalize j:entry _=ρ
  have q:ρ 0=.isl bs:=by rw [<-j];rfl
  have h1:ρ 1=.fn (.func k) [] caps:=by rw [<-j];rfl
  clear j
  unfold zck
  simp only [go_sem]
  refine ⟨q,h1,?_⟩
  first | exact ⟨by simp [put],by simp [put],by simp [put],rfl⟩ | exact ⟨by simp [put],by simp [put],rfl⟩
 ·rintro b L1 ⟨q,h1,u,p,s,rfl⟩ kept B
  unfold r1c
  simp only [q,h1,u,p,s,go_sem]
  refine J8 (hc (L0++[yZ bs 0]) L0.length (Keep.app k0) (by simp)) (fun _ _ h=>h.elim) ?_
  rintro x M ⟨rfl,rfl⟩
  exact ⟨rfl,rfl⟩
 ·rintro b L1 x L' ⟨q,h1,u,p,s,rfl⟩ ⟨rfl,rfl⟩
  have m:([4,5,6]:List Nat).map b=[.ptr L.length 0 0,.ptr (L.length+1) 0 0,.ptr (L.length+2) 0 0]:=by simp [u,p,s]
  rw [m]
  refine zey (fn:=Tryz.f208) (r:=7) (x2:=zjb) (by rw [l];rfl) rfl rfl (Nat.le_of_ble_eq_true rfl) (by decide) (by rw [l];kernel_rfl) (by rfl) (zK _ (fun e ρ' L' h=>?_) (zbE (L0++[yZ bs 0]) L.length (Zu g0) (Zu Z) (Zu U)))
  obtain ⟨O,D,e1,J,V⟩:=h
  refine ⟨O,fun ρ j=>?_⟩
  have g4:ρ 4=.ptr L.length 0 0:=by rw [j 4 (by decide)];simp only [u,go_sem]
  have T:ρ 5=.ptr (L.length+1) 0 0:=by rw [j 5 (by decide)];simp only [p,go_sem]
  have X:ρ 6=.ptr (L.length+2) 0 0:=by rw [j 6 (by decide)];simp only [s,go_sem]
  have l0:=zg D
  have l1:=zg e1
  have l2:=zg J
  simp only [Y6,YQ,ZJ,g4,T,X,D,e1,J,go_sem]
  refine ⟨rfl,?_⟩
  have R:Keep none' L (L0++[yZ bs 0]):=Keep.app k0
  exact R.trans V fun t ht h=>by omega
def q77 : XC :=(sO [oI 2 0,oI 3 0,oI 4 0] (sO [oO 5 (.alloc [(.int .i64 0)]),oU (.store 1 (.t 5) (oi 0))] (sO [oM 10 0,oO 11 (.mkfn (.func 150) [] [.t 5]),oC 12 149 [.t 10,.t 11],oM 9 12,oX 13 0 9,oX 14 1 9,oX 15 2 9,oM 6 13,oM 7 14,oM 8 15] (.seq (sO [oM 16 8,oK 17 .neq 16 0] (cT 17 (sO [oM 18 7,oM 19 8,oI 2 0,oM 3 18,oM 4 19] .ret) .skip)) (.seq (.draw [oM 20 6,oL 21 5,oM 2 20,oM 3 21,oI 4 0]) .ret)))))
def zhe : XC :=(sO [oI 3 0] (sO [oM 5 0,oC 6 147 [.t 5],oM 4 6] (sO [oM 7 0,oN 8 7,oF 9 1 8,oL 10 9,oS 1 10] (sO [oM 11 0,oM 12 0,oN 13 12,oF 14 0 13,oL 15 14,oY 16 15,oN 17 11,oF 18 1 17,oS 18 16] (sO [oM 19 4,oM 3 19] .ret)))))
def zmc : XC :=(sO [oO 2 (.alloc [(.int .i64 0),(.int .i64 0)]),oI 3 0,oI 4 0] (sO [oM 5 0,oC 6 314 [.t 5,(.f 315)],oX 7 0 6,oX 8 1 6,oX 9 2 6,oU (.store 2 (.t 2) (.t 7)),oM 3 8,oM 4 9] .ret))
def zkI : XC :=(sO [oO 2 (.alloc [(.int .i64 0),(.int .i64 0)])] (sO [oM 3 0,oC 4 97 [.t 3],oF 5 0 2,oS 5 4] (sO [oM 6 0,oC 7 147 [.t 6],oF 8 1 2,oS 8 7] (sO [oO 9 (.loadN 2 (.t 2)),oU (.store 2 (.t 2) (.t 9))] .ret))))
def zjS : XC :=(.block 0 (sO [oM 9 1,oO 10 (.bin .lss (.t 9) (.c (.int .i64 (-2251799813685248)))),oM 11 10,oG 12 11 false (.mov (.t 1)),oG 13 11 false (.bin .gtr (.t 12) (oi 2251799813685248)),oO 14 (.pick (.t 11) (.c (.bool true)) (.t 13)),oM 8 14] (cT 8 (.ops [oO 15 (.build [(.int .i64 0)] []),oO 16 (.ex (.mkif 274) [.t 15]),oU (.ex .panic [.t 16])]) (sO [oM 18 1,oK 19 .lss 18 0,oM 17 19] (cT 17 (.ops [oM 20 0,oM 21 1,oO 22 (.bin .mul (.c (.int .i64 (-2))) (.t 21)),oK 23 .sub 22 1,oC 24 107 [.t 20,.t 23]]) (.ops [oM 4 0,oM 5 1,oO 6 (.bin .mul (oi 2) (.t 5)),oC 7 107 [.t 4,.t 6]]))))))
def zlB : XC :=(sO [oO 1 (.box (.t 0)),oV 2 .nsl,oI 3 0] (sO [oO 4 (.mkfn (.func 316) [] [.t 1]),oC 5 100 [.t 4],oX 6 0 5,oX 7 1 5,oM 2 6,oM 3 7] .ret))
def zlx : XC :=(sO [oM 3 0,oF 4 0 1,oL 5 4,oC 6 104 [.t 3,.t 5]] (.ops [oM 7 0,oF 8 1 1,oL 9 8,oC 10 107 [.t 7,.t 9]]))
theorem z7N (j:E.P=Tryz.prog) {b:Nat}:Stops E L 150 [.ptr b 0 0] []:=by
 intro L1 p q l
 refine xtl (n:=Tryz.f150.ntmps) (rs:=[.tmp 3]) (c:=zhe) (by rw [j];rfl) (by rw [j];kernel_rfl) (by decide) (Nat.le_of_ble_eq_true rfl) ?_
 generalize d:entry _=ρ
 have m:ρ 0=.ptr p 0 0:=by rw [<-d];rfl
 have h1:ρ 1=.ptr b 0 0:=by rw [<-d];rfl
 clear d
 unfold zhe
 simp only [m,go_sem]
 exact J8 (zcK (by exact j) l) (fun _ _ h=>h.elim) fun _ _ h=>h
theorem z7z (s:E.P=Tryz.prog) {b n:Nat} {c:Int} (v:L[b]?=some (.cells 1 [[.int .i64 c]])) (A:n<=4503599627370496):Reads E L 150 [.ptr b 0 0] (zL n) (fun t=>t=b) fun r M=>r=.int .i64 n/\M[b]?=some (.cells 1 [[.int .i64 ((zn n+1:Nat):Int)]]):=by
 intro L1 p B I G q
 have d:=B.get v fun h=>h
 have D:=zf v
 have j:(b=p)=False:=fO
 have l:(p=b)=False:=fO
 have m:=zg d
 have lp:=zg q
 refine xt2 (fn:=Tryz.f150) (rs:=[.tmp 3]) (c:=zhe) s fun ρ u h1=>?_
 unfold zhe
 simp only [u,go_sem]
 have w:=zM n
 have hsz:=Zj (n:=n) (k:=7) od
 refine zh (Y1 (E:=E.noPan) (rest:=[]) s q (by simp) (zO n) od A) ?_
 rintro r L2 ⟨rfl,rfl⟩
 have lo:lenOf (.isl (zL n))=some (zL n).length:=rfl
 unfold yZ
 simp only [u,h1,d,m,lp,j,l,zt lo,go_sem]
 exact kQ
theorem z0g (d:E.P=Tryz.prog) {n:Nat} (m:n<=4503599627370496):XT E 77 [.isl (zL n)] L fun r L'=>r=.tup [.int .i64 n,.int .i64 ((zn n+1:Nat):Int),.int .i64 0]/\Keep none' L L':=by
 refine xt1 (fn:=Tryz.f77) (rs:=[.tmp 2,.tmp 3,.tmp 4]) (c:=q77) d fun ρ p=>?_
 unfold q77
 simp only [p,go_sem]
 refine zh (zb5 (E:=E.noPan) d (z7z d (b:=L.length) (c:=0) (by simp only [go_sem]<;>rfl) m) ?_ ?_ ?_) ?_
 ·rintro r M M' j ⟨rfl,h⟩
  exact ⟨rfl,j.get h (by simp;omega)⟩
 ·rintro t rfl;simp
 ·rintro r M ⟨rfl,_⟩;exact ⟨_,rfl,rfl,rfl⟩
 rintro r L2 ⟨v,rfl,⟨rfl,l⟩,j⟩
 have s:=zg l
 simp only [l,go_sem]
 have k0:Keep none' L (L++[Blk.cells 1 [[IV.int IntKind.i64 0]]]):=Keep.app Keep.refl
 exact ⟨rfl,k0.trans j fun t q h=>by omega⟩
theorem Jz (b:E.P=Tryz.prog) {n:Nat} (d:n<=4503599627370496):zD E 77 [.isl (zL n)] (.tup [.int .i64 n,.int .i64 ((zn n+1:Nat):Int),.int .i64 0]):=by
 refine zU (z0g b d) ?_
 rintro r L' ⟨rfl,h⟩
 exact ⟨h,_,rfl,rfl⟩
theorem Jh (d:E.P=Tryz.prog):XT E 77 [.isl []] L fun r L'=>r=.tup [.int .i64 0,.int .i64 0,.int .i64 2]/\Keep none' L L':=by
 refine xt1 (fn:=Tryz.f77) (rs:=[.tmp 2,.tmp 3,.tmp 4]) (c:=q77) d fun ρ j=>?_
 unfold q77
 simp only [j,go_sem]
 refine zh (z8d (E:=E.noPan) d (z7N d (b:=L.length))) ?_
 rintro r L2 ⟨rfl,l⟩
 simp only [go_sem]
 exact (Keep.app (k:=Blk.cells 1 [[IV.int IntKind.i64 0]]) Keep.refl:Keep none' L _).trans l fun _ _ h=>h
theorem jR (b:E.P=Tryz.prog):zD E 77 [.isl []] (.tup [.int .i64 0,.int .i64 0,.int .i64 2]):=by
 refine zU (Jh b) ?_
 rintro r L' ⟨rfl,d⟩
 exact ⟨d,_,rfl,rfl⟩
def Zt (o:Int) (n:Nat):List (List IV):=zL (wO o)++zL n
theorem jG {o:Int} {n:Nat}:zA (Zt o n):=(zO _).app (zO _)
theorem z4N (q:E.P=Tryz.prog) {o:Int} {n:Nat} (h1 : -2251799813685248<=o) (h2:o<=2251799813685248) (D:n<=4503599627370496):Reads E L 315 [] (Zt o n) none' fun r M=>r=.agg [.int .i64 o,.int .i64 n]:=by
 intro L1 p J I G u
 have l:=zM n
 have hsz:=Zj (n:=n) (k:=7) od
 have h:=zM (wO o)
 have B:wO o<=4503599627370496:=by unfold wO;split<;>omega
 have A:=Zj (n:=wO o) (k:=7) od
 have lp:=zg u
 have s:(Zt o n).length=(zL (wO o)).length+(zL n).length:=by simp [Zt]
 have j:(p=L1.length)=False:=fO
 have d:(L1.length=p)=False:=fO
 have m:=Zu (b:=.cells 2 [[.int .i64 0,.int .i64 0]]) u
 refine xt1 (fn:=Tryz.f315) (rs:=[.cellN 2 2]) (c:=zkI) q fun ρ w=>?_
 unfold zkI
 simp only [w,go_sem]
 refine zh (z9o (E:=E.noPan) (v:=o) (rest:=zL n) q m (by simp [Zt]) jG od h1 h2) ?_
 rintro r L2 ⟨rfl,rfl⟩
 simp only [w,j,go_sem]
 refine zh (Y1 (E:=E.noPan) (p:=p) (bs:=Zt o n) (a:=zn (wO o)+1) (n:=n) (rest:=[]) q (by simp only [lp,d,go_sem]) ?_ jG od D) ?_
 ·have:=drop_at (bs:=Zt o n) (a:=0) (rs:=zL (wO o)) (rest:=zL n) (by simp [Zt])
  rw [Nat.zero_add,h] at this
  rw [this];simp
 rintro r L2 ⟨rfl,rfl⟩
 simp only [lp,j,d,Y6,Zk,ZJ,go_sem]
 refine ⟨rfl,?_,kQ⟩
 rw [s,l,h]
theorem z0h (b:E.P=Tryz.prog) {o:Int} {n:Nat} (h1 : -2251799813685248<=o) (h2:o<=2251799813685248) (m:n<=4503599627370496):zD E 275 [.isl (Zt o n)] (.tup [.agg [.int .i64 o,.int .i64 n],.int .i64 0,.int .i64 0]):=by
 refine zU (R:=fun r L'=>r=.tup [.agg [.int .i64 o,.int .i64 n],.int .i64 0,.int .i64 0]/\Keep none' [] L') ?_ ?_
 ·have s:jL [Blk.cells 2 [[IV.int IntKind.i64 0,IV.int IntKind.i64 0]]].length (fun (r:IV) (_:List Blk)=>r=.agg [.int .i64 o,.int .i64 n]):=fun r M M' _ h=>h
  refine xt1 (fn:=Tryz.f275) (rs:=[.cellN 2 2,.tmp 3,.tmp 4]) (c:=zmc) b fun ρ p=>?_
  unfold zmc
  simp only [p,go_sem]
  refine zh (zb1 (E:=E.noPan) b (z4N b h1 h2 m) (fun r M M' _ h=>h) (fun _ h=>h.elim) (fun r M h=>⟨_,h,rfl,rfl⟩)) ?_
  rintro r L2 ⟨v,rfl,rfl,d⟩
  have j:=d.get (t:=0) (k:=Blk.cells 2 [[IV.int IntKind.i64 0,IV.int IntKind.i64 0]]) rfl (fun h=>h)
  have q:=zg j
  simp only [j,q,Y6,Zk,ZJ,WH,go_sem]
  exact ⟨rfl,⟨Nat.zero_le _,fun t l=>nomatch l⟩⟩
 ·rintro r L' ⟨rfl,d⟩
  exact ⟨d,_,rfl,rfl⟩
theorem z2I (q:E.P=Tryz.prog) {p:Nat} {v:Int} {F:Nat->Prop} {bs:List (List IV)} (h:yX L p F bs) (w : -2251799813685248<=v) (B:v<=2251799813685248) (D:bs.length+100<=70368744177664) :
  XT E 104 [.ptr p 0 0,.int .i64 v] L fun r L'=>r=.tup []/\(∃F',yX L' p F' (bs++zL (wO v))/\Grown F F' L L')/\Keep F L L':=by
 have l:=YG (E:=E.noPan) (n:=wO v) q h (by unfold wO;split<;>omega) D
 refine xt2 (fn:=Tryz.f104) (rs:=[]) (c:=zjS) q fun ρ u h1=>?_
 unfold zjS
 have s:(v < -2251799813685248)=False:=fO
 have m:((2251799813685248:Int)<v)=False:=fO
 by_cases hc:v<0
 ·have j:(v<0)=True:=eq_true hc
  have e1:(wO v:Int) = -2*v - 1:=by unfold wO;rw [if_pos hc];omega
  have d:IntKind.i64.wrap (-2*v) = -2*v:=wrap64 od od
  have A:IntKind.i64.wrap (-2*v - 1)=(wO v:Int):=by rw [wrap64 od od,e1]
  simp only [u,h1,s,m,j,d,A,go_sem]
  refine zh l ?_
  rintro r L' ⟨rfl,h2,b⟩
  simp only [go_sem]
  exact ⟨h2,b⟩
 ·have j:(v<0)=False:=eq_false hc
  have e1:(wO v:Int)=2*v:=by unfold wO;rw [if_neg hc];omega
  have d:IntKind.i64.wrap (2*v)=(wO v:Int):=by rw [wrap64 od od,e1]
  simp only [u,h1,s,m,j,d,go_sem]
  refine zh l ?_
  rintro r L' ⟨rfl,h2,b⟩
  simp only [go_sem]
  exact ⟨h2,b⟩
theorem z2E (A:E.P=Tryz.prog) {b n:Nat} {o:Int} (J:L[b]?=some (.cells 2 [[.int .i64 o,.int .i64 n]])) (v : -2251799813685248<=o) (w:o<=2251799813685248) (O:n<=4503599627370496):Writes E L 316 [.ptr b 0 0] (Zt o n):=by
 intro L1 p R V m
 have j:=R.get J fun h=>h
 have Q:=zg j
 have S:=zf J
 refine xt2 (fn:=Tryz.f316) (rs:=[]) (c:=zlx) A fun ρ G h1=>?_
 unfold zlx
 simp only [G,h1,j,go_sem]
 refine zh (z2I (E:=E.noPan) A m v w (by simp)) ?_
 rintro r L2 ⟨rfl,⟨F1,D,s⟩,d⟩
 have q:=d.get j od
 have M:=zg q
 simp only [G,h1,q,go_sem]
 have U:=zM (wO o)
 have I:=Zj (n:=wO o) (k:=7) (by unfold wO;split<;>omega)
 refine zh (YG (E:=E.noPan) A D O (by simp;omega)) ?_
 rintro r L3 ⟨rfl,⟨F2,B,u⟩,l⟩
 simp only [go_sem]
 refine ⟨⟨F2,B,s.trans u d.1 l.1⟩,d.trans l fun t T h=>?_⟩
 rcases s t h with h | h
 ·exact h
 ·omega
theorem z7V (d:E.P=Tryz.prog) {n:Nat} {o:Int} (h1 : -2251799813685248<=o) (h2:o<=2251799813685248) (l:n<=4503599627370496):zD E 276 [.agg [.int .i64 o,.int .i64 n]] (.tup [.isl (Zt o n),.int .i64 0]):=by
 refine zU (R:=fun r L'=>∃v,r=.tup [v,.int .i64 0]/\zcz [] L' v (Zt o n)/\Keep none' [] L') ?_ ?_
 ·skip
  refine xt1 (fn:=Tryz.f276) (rs:=[.tmp 2,.tmp 3]) (c:=zlB) d fun ρ q=>?_
  unfold zlB
  simp only [q,go_sem]
  refine zh (Yp (E:=E.noPan) d (z2E d (b:=0) (n:=n) (o:=o) rfl h1 h2 l) (by simp [Zt,zL])) ?_
  rintro r L' ⟨v,rfl,⟨g,rfl,hg,s,p⟩,j⟩
  simp only [go_sem]
  exact ⟨_,rfl,⟨g,rfl,Nat.zero_le _,s,p⟩,Keep.trans (Keep.app Keep.refl) j fun _ _ h=>h⟩
 ·rintro r L' ⟨v,rfl,m,j⟩
  exact ⟨j,_,by simp only [fuel,conv,zJ,wC m];rfl,rfl⟩
end
end Go.X.TryzW
end
section
open Go Go.X Go.Proofs
set_option maxRecDepth 100000
namespace Go.X
theorem Jq {m:Type} {P:m->Bool}:∀{l:List m},l.Pairwise (fun a b=>P b=true->P a=true)->l.takeWhile P=l.filter P
 | [],_=>rfl
 | a::r,h=>by
  have j:=List.pairwise_cons.1 h
  cases hp:P a with
  | true=>rw [List.takeWhile_cons_of_pos hp,List.filter_cons_of_pos hp,Jq j.2]
  | false=>
   rw [List.takeWhile_cons_of_neg (by simp [hp]),List.filter_cons_of_neg (by simp [hp])]
   symm
   rw [List.filter_eq_nil_iff]
   intro b p d
   rw [j.1 b p d] at hp
   cases hp
theorem KV.drop_rank:∀(d:KV) (k:List UInt8),d.sorted->d.drop (d.rank k)=d.filter fun p=>!Op.bytesLess p.1 k
 | [],k,_=>rfl
 | p::r,k,h=>by
  have b:=List.pairwise_cons.1 h
  unfold KV.rank
  cases hp:Op.bytesLess p.1 k with
  | true=>
   rw [if_pos rfl,List.drop_succ_cons,KV.drop_rank r k b.2,List.filter_cons_of_neg (by simp [hp])]
  | false=>
   rw [if_neg (by simp),List.drop_zero,List.filter_cons_of_pos (by simp [hp])]
   congr 1
   symm
   rw [List.filter_eq_self]
   intro q j
   have h1:=b.1 q j
   cases hq2:Op.bytesLess q.1 k with
   | false=>rfl
   | true=>rw [vw h1 hq2] at hp;cases hp
theorem KV.sorted_filter {d:KV} (h:d.sorted) (P:List UInt8 × List UInt8->Bool):KV.sorted (d.filter P):=List.Pairwise.filter _ h
theorem KV.scan_eq {d:KV} (h:d.sorted) {m to:List UInt8} (q:to≠[]):d.scan m to=d.filter fun p=>!Op.bytesLess p.1 m&&Op.bytesLess p.1 to:=by
 unfold KV.scan
 rw [KV.drop_rank d m h,Jq]
 ·rw [List.filter_filter]
  congr 1
  funext p
  unfold TryzW.inTo
  rw [decide_eq_false q,Bool.false_or,Bool.and_comm]
 ·refine List.Pairwise.imp ?_ (KV.sorted_filter h _)
  intro a b l j
  unfold TryzW.inTo at j ⊢
  rw [decide_eq_false q,Bool.false_or] at j ⊢
  exact vw l j
theorem z04 {k p:List UInt8}:TryzW.pfx k p=true↔p <+: k:=by
 unfold TryzW.pfx
 rw [decide_eq_true_eq]
 constructor
 ·rintro ⟨_,h⟩
  rw [<-h]
  exact List.take_prefix _ _
 ·intro h
  exact ⟨h.length_le,(List.prefix_iff_eq_take.1 h).symm⟩
theorem zfD:∀{p k:List UInt8},p <+: k->Op.bytesLess k p=false
 | p,_,⟨t,rfl⟩=>by
  cases h:Op.bytesLess (p++t) p with
  | false=>rfl
  | true=>
   have h1:=V3.1 h
   exfalso
   induction p with
   | nil=>exact List.not_lt_nil _ h1
   | cons a p b=>
    simp only [List.cons_append,List.cons_lt_cons_iff] at h1
    rcases h1 with h1 | ⟨_,h1⟩
    ·exact absurd h1 (UInt8.lt_irrefl a)
    ·exact b (V3.2 h1) h1
theorem z6u:∀{p k l:List UInt8},Op.bytesLess k p=false->Op.bytesLess k l=true->p <+: l->p <+: k
 | [],k,l,_,_,_=>List.nil_prefix
 | a::p,k,l,h1,h2,⟨t,h3⟩=>by
  subst h3
  cases k with
  | nil=>
   exfalso
   have:Op.bytesLess [] (a::p)=true:=V3.2 (List.nil_lt_cons a p)
   rw [this] at h1;cases h1
  | cons b k=>
   have j:=V3.1 h2
   simp only [List.cons_append,List.cons_lt_cons_iff] at j
   have d:¬(b::k)<(a::p):=fun h=>by rw [V3.2 h] at h1;cases h1
   simp only [List.cons_lt_cons_iff,not_or] at d
   rcases j with h | ⟨rfl,h⟩
   ·exact absurd h d.1
   ·have m:Op.bytesLess k p=false:=by
     cases h5:Op.bytesLess k p with
     | false=>rfl
     | true=>exact absurd ⟨rfl,V3.1 h5⟩ d.2
    rw [List.cons_prefix_cons]
    exact ⟨rfl,z6u m (V3.2 h) ⟨t,rfl⟩⟩
theorem KV.list_eq {d:KV} (h:d.sorted) (p:List UInt8):d.list p=d.filter fun q=>TryzW.pfx q.1 p:=by
 unfold KV.list KV.scan
 have w:(fun q:List UInt8 × List UInt8=>TryzW.inTo [] q.1)=fun _=>true:=by funext q;simp [TryzW.inTo]
 have e1:∀l:KV,l.takeWhile (fun q:List UInt8 × List UInt8=>TryzW.inTo [] q.1)=l:=fun l=>by
  rw [w]
  induction l with
  | nil=>rfl
  | cons a l s=>rw [List.takeWhile_cons_of_pos rfl,s]
 rw [e1,KV.drop_rank d p h,Jq]
 ·rw [List.filter_filter]
  congr 1
  funext q
  cases hq:TryzW.pfx q.1 p with
  | false=>simp
  | true=>simp [zfD (z04.1 hq)]
 ·have h2:((d.filter fun q=>!Op.bytesLess q.1 p)).Pairwise fun a b=>Op.bytesLess a.1 b.1=true/\Op.bytesLess a.1 p=false:=by
   have r:=KV.sorted_filter h fun q=>!Op.bytesLess q.1 p
   unfold KV.sorted at r
   rw [List.pairwise_iff_getElem] at r ⊢
   intro i j hi v m
   refine ⟨r i j hi v m,?_⟩
   have:=(List.mem_filter.1 (List.getElem_mem hi)).2
   simpa using this
  refine List.Pairwise.imp ?_ h2
  rintro a b ⟨A,u⟩ B
  exact z04.2 (z6u u A (z04.1 B))
theorem KV.put_head {l:KV} {k v:List UInt8} (h:∀q∈l,Op.bytesLess k q.1=true):KV.put l k v=(k,v)::l:=by
 cases l with
 | nil=>rfl
 | cons p r=>
  have h1:=h p List.mem_cons_self
  unfold KV.put
  have h2:Op.bytesLess p.1 k=false:=by
   cases h3:Op.bytesLess p.1 k with
   | false=>rfl
   | true=>have:=vw h1 h3;rw [YY] at this;cases this
  have b:¬p.1=k:=fun h=>by rw [h,YY] at h1;cases h1
  rw [h2,if_neg (by simp),if_neg b]
theorem KV.put_cons {p:List UInt8 × List UInt8} {r:KV} {k v:List UInt8}:KV.put (p::r) k v=if Op.bytesLess p.1 k then p::KV.put r k v else if p.1=k then (k,v)::r else (k,v)::p::r:=rfl
end Go.X
end
