/- Parts of the proof: Xhpen2, Xhpen3, Xhkv1. -/
import Derived.Test.YtnmhhmbeljlndaaGreatDoorXP13
import Derived.WalkKit
set_option linter.unusedVariables false
set_option linter.unusedSimpArgs false
set_option linter.unusedSectionVars false
section
open Go Go.X Go.Proofs
set_option maxRecDepth 100000
set_option maxHeartbeats 4000000
namespace Go.X.TryzW
def q84 : XC :=(sO [oO 1 (.box (.t 0)),oV 2 .nsl,oI 3 0] (sO [oO 4 (.mkfn (.func 157) [] [.t 1]),oC 5 100 [.t 4],oX 6 0 5,oX 7 1 5,oM 2 6,oM 3 7] .ret))
def q157 : XC :=(.ops [oM 3 0,oL 4 1,oC 5 107 [.t 3,.t 4]])
def zeg : XC :=.ops [oO 2 (.alloc [.nsl]),oO 3 (.alloc [(.int .i64 0)])]
def zct : XC :=sO [oO 6 (.build [.nsl] []),oO 7 (.box (.t 6)),oM 4 7] (sO [oM 8 0,oM 9 4,oO 10 (.call (.t 8) [.t 9])] (sO [oM 11 4,oN 12 11,oF 13 0 12,oL 14 13,oS 2 14,oU (.store 1 (.t 3) (oi 0))] .ret))
section
variable {E:Env} {ρ:Rho} {L:List Blk} {K:IV->List Blk->Prop}
theorem z3S:z2k Tryz.prog 175 2:=by
 intro vs w hv
 match vs,hv with
 | [p,q],_=>
 have hnil:∀w:World,(binOp BinOp.eql 20 .nilIface .nilIface).run Tryz.prog w=.ok (.bool true) w:=fun _=>by kernel_rfl
 refine callsD_of_wpS Tryz.func175 rfl fun c₀ cs hu=>?_
 apply wpS_seq
 apply wpS_region
 simp [wpOpsS,go_sem,recoverD,hu,Tryz.ntmps175,Exit.thenS]
 refine wpS_of_wp ?_
 go_wp
 cases c₀
 simp_all [bodyPostS,results,Tryz.results175]
def Writes (E:Env) (L:List Blk) (k:FuncId) (caps:List IV) (bs:List (List IV)):Prop:=∀(L1:List Blk) (p:Nat),Keep none' L L1->L.length<=p->yJ L1 p (fun t=>t=p) []->
 XT E k (.ptr p 0 0::caps) L1 fun r L2=>r=.tup []/\(∃F',yJ L2 p F' bs/\Grown (fun t=>t=p) F' L1 L2)/\Keep (fun t=>t=p) L1 L2
def NewB (L L':List Blk) (v:IV) (bs:List (List IV)):Prop:=∃g,v=.sl g 0 bs.length bs.length/\L.length<=g/\(L'[g]?=some (.cells 1 bs)\/L'[g]?=some (.tcells 5 1 bs))/\zx bs
theorem zaS {k : FuncId} {caps : List IV} {bs : List (List IV)} (hc : Writes E L k caps bs) (hne : bs ≠ []) (lo : Nat) (kept : Nat -> Value) (B : List Deferred) (h0 : ρ 0 = .fn (.func k) [] caps) (h2 : ρ 2 = .ptr L.length 0 0) (h3 : ρ 3 = .ptr (L.length + 1) 0 0) :
    xrun (E.defr (fun _ _ => False) lo kept B) zct ρ (L ++ [.cells 1 [[.nsl]]] ++ [.cells 1 [[.int .i64 0]]]) fun e ρ' L' => (e = .ret \/ e = .normal) /\ ρ' 2 = .ptr L.length 0 0 /\ ρ' 3 = .ptr (L.length + 1) 0 0 /\
      ∃ v, NewB L L' v bs /\ L'[L.length]? = some (.cells 1 [[v]]) /\ L'[L.length + 1]? = some (.cells 1 [[.int .i64 0]]) /\ Keep none' L L' := by
  unfold zct
  simp (maxDischargeDepth := 12) only [h0, go_sem, Nat.reduceEqDiff, reduceIte]
  obtain ⟨p, hp⟩ : ∃ p, (L ++ [Blk.cells 1 [[.nsl]]] ++ [Blk.cells 1 [[.int .i64 0]]]).length = p := ⟨_, rfl⟩
  have hp2 : p = L.length + 2 := by rw [<- hp]; simp
  have hcc := hc (L ++ [.cells 1 [[.nsl]]] ++ [.cells 1 [[.int .i64 0]]] ++ [.cells 1 [[.nsl]]]) p (by (repeat' first | exact Keep.refl | apply Keep.app | apply Keep.set) <;> (intro hh; first | rfl | (exfalso; first | omega | (simp only [lla,lls,llc,lln] at hh; omega)))) (by omega) ⟨.nsl, (by subst hp; simp (maxDischargeDepth := 12) only [go_sem]), (by intro r hr; cases hr), .inl ⟨rfl, rfl, rfl⟩⟩
  rw [hp]
  refine zh hcc ?_
  rintro r L2 ⟨rfl, ⟨F', hP, hG⟩, hK⟩
  obtain ⟨v, hv, hbr, ⟨_, hb0, _⟩ | ⟨g, rfl, hg, _, hgp, rfl⟩⟩ := hP
  · exact absurd hb0 hne
  have hgL := hG g (.inr rfl)
  have hgl : L.length + 3 <= g := by
    rcases hgL with h | ⟨h, _⟩
    · exact absurd h hgp
    · simp only [lla,llc,lln] at h; omega
  have e0 : L2[L.length]? = some (.cells 1 [[.nsl]]) := hK.get (by simp (maxDischargeDepth := 12) only [go_sem]) (by omega)
  have e1 : L2[L.length + 1]? = some (.cells 1 [[.int .i64 0]]) := hK.get (by have e9 : (L ++ [Blk.cells 1 [[IV.nsl]]]).length = L.length + 1 := by simp
                                                                              rw [<- e9]; simp (maxDischargeDepth := 12) only [go_sem]) (by omega)
  have l0 := zg e0
  have l1 := zg e1
  have lp := zg hv
  have q1 : (L.length = L.length + 1) = False := eq_false (by omega)
  have q2 : (L.length + 1 = L.length) = False := eq_false (by omega)
  have q3 : (L.length = p) = False := eq_false (by omega)
  have q4 : (L.length + 1 = p) = False := eq_false (by omega)
  simp (maxDischargeDepth := 12) only [h2, h3, hv, e0, e1, l0, l1, q1, q2, go_sem, Nat.reduceEqDiff, reduceIte]
  refine ⟨.inl trivial, _, ⟨g, rfl, by omega, ?_, hbr⟩, rfl, ?_⟩
  · have g0 : ¬ L.length = g := by omega
    have g1 : ¬ L.length + 1 = g := by omega
    rw [List.getElem?_set_ne g1, List.getElem?_set_ne g0]
    exact hg
  · have k0 : Keep none' L (L ++ [Blk.cells 1 [[IV.nsl]]] ++ [Blk.cells 1 [[IV.int .i64 0]]] ++ [Blk.cells 1 [[IV.nsl]]]) := by (repeat' first | exact Keep.refl | apply Keep.app | apply Keep.set) <;> (intro hh; first | rfl | (exfalso; first | omega | (simp only [lla,lls,llc,lln] at hh; omega)))
    have k1 : Keep none' L L2 := k0.trans hK fun t ht h => by omega
    exact Keep.set (Keep.set k1 fun h => by omega) fun h => by omega
theorem Y7 (hP:E.P=Tryz.prog) {k:FuncId} {caps:List IV} {bs:List (List IV)} (hc:Writes E L k caps bs) (hne:bs≠[]):XT E 100 [.fn (.func k) [] caps] L fun r L'=>∃v,r=.tup [v,.int .i64 0]/\NewB L L' v bs/\Keep none' L L':=by
 refine Yi (fn:=Tryz.f100) (x1:=zeg) (x3:=zct) (rs:=[.cell1 2,.cell1 3]) (d:=5) (k:=175) (lo:=4) (caps:=[2,3])
  (M:=fun ρ1 L1=>ρ1 0=.fn (.func k) [] caps/\ρ1 2=.ptr L.length 0 0/\ρ1 3=.ptr (L.length+1) 0 0/\L1=L++[.cells 1 [[.nsl]]]++[.cells 1 [[.int .i64 0]]]) (PQ:=fun _ _ _=>False)
  (by rw [hP];rfl) rfl (by decide) (Nat.le_of_ble_eq_true rfl) (by decide) (by rw [hP];kernel_rfl) (by rw [hP];kernel_rfl) (by rw [hP];kernel_rfl) (by rfl) ⟨Tryz.f175,by rw [hP];rfl,by decide,by rfl⟩ ?_ (by rfl) ?_ ?_ ?_ (by rw [hP];exact z3S)
 ·intro Q a w hd hN h
  apply wp_region
  obtain ⟨tm,df⟩:=a
  simp only at hd hN
  subst hd
  have h5:5<tm.size:=by rw [hN];decide
  have hg5:∀v:Value,(tm.setIfInBounds 5 v).getD 5 undef=v:=fun v=>by rw [yf h5,if_pos rfl]
  have hmf:∀(fn:Fn) (first cap:Array Value) (w:World),(Instr.makeFunc fn first cap).run E.P w=.ok (.func fn first cap) w:=fun _ _ _ _=>rfl
  have hr2:(List.range 2)=[0,1]:=rfl
  show wpOps E.P _ Q [0,1] _ w
  simp [wpOps,Oper.wp,Oper.upon,Region.wanted,go_sem,Act.eval,Act.put,hg5,execOp,resolve,Deferred.ofValue]
  refine .inl (.inl ?_)
  simpa using h
 ·generalize hρ:entry _=ρ
  have h0:ρ 0=.fn (.func k) [] caps:=by rw [<-hρ];rfl
  clear hρ
  unfold zeg
  simp only [go_sem]
  exact ⟨h0,by constructor<;>simp [put]⟩
 ·rintro ρ1 L1 ⟨h0,h2,h3,rfl⟩ kept B
  refine zB _ (fun e ρ' L' h=>?_) (zaS hc hne 4 kept B (by simp only [h0,go_sem,Nat.reduceEqDiff,reduceIte]) (by simp only [h2,go_sem,Nat.reduceEqDiff,reduceIte]) (by simp only [h3,go_sem,Nat.reduceEqDiff,reduceIte]))
  obtain ⟨he,g2,g3,v,hv,hl0,hl1,hk⟩:=h
  refine ⟨he,?_⟩
  have l0:=zg hl0
  have l1:=zg hl1
  simp only [Y4,Yt,ZO,g2,g3,hl0,hl1,go_sem]
  exact ⟨v,rfl,hv,hk⟩
 ·rintro ρ1 L1 x L' _ h
  exact h.elim
theorem z1w (hP:E.P=Tryz.prog) {b n:Nat} (hb:L[b]?=some (.cells 1 [[.int .i64 n]])) (hn:n<=4503599627370496):Writes E L 157 [.ptr b 0 0] (numR n):=by
 intro L1 p hk hp hpen
 have hb1:=hk.get hb fun h=>h
 have lb1:=zg hb1
 refine xt2 (fn:=Tryz.f157) (rs:=[]) (c:=q157) hP fun ρ h0 h1=>?_
 unfold q157
 simp only [h0,h1,hb1,go_sem,Nat.reduceEqDiff,reduceIte]
 refine zh (Yq (E:=E.noPan) hP hpen hn (by simp)) ?_
 rintro r L' ⟨rfl,h2,h3⟩
 simp only [go_sem]
 exact ⟨h2,h3⟩
theorem z3Z (n:Nat):numR n≠[]:=by simp [numR]
theorem z8u (hP:E.P=Tryz.prog) {n:Nat} (hn:n<=4503599627370496):XT E 84 [.int .i64 n] L fun r L'=>∃v,r=.tup [v,.int .i64 0]/\NewB L L' v (numR n)/\Keep none' L L':=by
 refine xt1 (fn:=Tryz.f84) (rs:=[.tmp 2,.tmp 3]) (c:=q84) hP fun ρ h0=>?_
 unfold q84
 simp only [h0,go_sem,Nat.reduceEqDiff,reduceIte]
 refine zh (Y7 (E:=E.noPan) hP (z1w hP (b:=L.length) (n:=n) (by simp only [go_sem]<;>rfl) hn) (z3Z n)) ?_
 rintro r L' ⟨v,rfl,⟨g,rfl,hg,hb,hr⟩,hk⟩
 simp only [go_sem,Nat.reduceEqDiff,reduceIte,Nat.reduceAdd,Nat.reduceLT]
 exact ⟨_,rfl,⟨g,rfl,by simp at hg;omega,hb,hr⟩,Keep.trans (Keep.app Keep.refl) hk fun _ _ h=>h⟩
end
end Go.X.TryzW
end
section
open Go Go.X Go.Proofs
set_option maxRecDepth 100000
set_option maxHeartbeats 4000000
namespace Go.X.TryzW
def q120 : XC :=(sO [oO 1 (.box (.t 0)),oV 2 .nsl,oI 3 0] (sO [oO 4 (.mkfn (.func 181) [] [.t 1]),oC 5 100 [.t 4],oX 6 0 5,oX 7 1 5,oM 2 6,oM 3 7] .ret))
def q181 : XC :=(sO [oM 5 0,oL 6 1,oY 7 6,oC 8 107 [.t 5,.t 7]] (sO [oL 9 1,oY 10 9,oI 11 0] (.block 0 (.loop (sO [oB 12 .lss 11 10] (.seq (cT 12 .skip (.exit 0)) (.seq (.block 1 (sO [oO 13 (.idxS 3 (.t 9) (.t 11)),oO 14 (.loadN 3 (.t 13)),oO 4 (.alloc [(.str []),(.str []),(.bool false)]),oU (.store 3 (.t 4) (.t 14))] (sO [oM 15 0,oF 16 0 4,oL 17 16,oC 18 106 [.t 15,.t 17]] (.seq (sO [oF 19 2 4,oL 20 19] (cT 20 (sO [oM 21 0,oM 22 0,oN 23 22,oF 24 0 23,oL 25 24,oO 26 (.bslice 1 [(.int .u8 0)] 1 [(0,(.c (.int .u8 1)))]),oO 27 (.ex (.appT 5 1) [.t 25,.t 26]),oN 28 21,oF 29 0 28,oS 29 27] (.seq (sO [oF 30 1 4,oL 31 30,oO 32 (.bin .neq (.t 31) (.c (.str [])))] (cT 32 (.ops [oO 33 (.build [(.int .i64 0)] []),oO 34 (.ex (.mkif 274) [.t 33]),oU (.ex .panic [.t 34])]) .skip)) (.exit 1))) .skip)) (sO [oM 35 0,oM 36 0,oN 37 36,oF 38 0 37,oL 39 38,oO 40 (.bslice 1 [(.int .u8 0)] 1 [(0,(.c (.int .u8 0)))]),oO 41 (.ex (.appT 5 1) [.t 39,.t 40]),oN 42 35,oF 43 0 42,oS 43 41] (.ops [oM 44 0,oF 45 1 4,oL 46 45,oC 47 106 [.t 44,.t 46]])))))) (.ops [oK 48 .add 11 1,oM 11 48]))))))))
section
variable {E:Env} {ρ:Rho} {L:List Blk} {K:IV->List Blk->Prop}
structure OpV where
 key:List UInt8
 val:List UInt8
 gone:Bool
def OpV.row (o:OpV):List IV:=[.str o.key,.str o.val,.bool o.gone]
def OpV.ok (o:OpV):Prop:=o.key.length<=1048576/\o.val.length<=1048576/\(o.gone=true->o.val=[])
def OpV.bytes (o:OpV):List (List IV):=txtR o.key++if o.gone then [[.int .u8 1]] else [[.int .u8 0]]++txtR o.val
def zA (l:List OpV):List (List IV):=l.map OpV.row
def opsR (l:List OpV):List (List IV):=numR l.length++l.flatMap OpV.bytes
theorem zW (s:List UInt8) (h:s.length<=1048576):(txtR s).length<=s.length+8:=by
 have:=Za (n:=s.length) (k:=7) (by omega)
 have h1:=zF s.length
 have h2:(zi s).length=s.length:=by simp [zi]
 unfold txtR
 rw [lla]
 omega
theorem OpV.bytes_len {o:OpV} (h:o.ok):o.bytes.length<=o.key.length+o.val.length+17:=by
 obtain ⟨h1,h2,h3⟩:=h
 have e1:=zW o.key h1
 have e2:=zW o.val h2
 unfold OpV.bytes
 rw [lla]
 split
 ·simp;omega
 ·simp only [lla,llc,lln];omega
theorem z1z {m:Nat} {f:OpV->List (List IV)}:∀(l:List OpV),(∀o∈l,(f o).length<=m)->(l.flatMap f).length<=l.length*m
 | [],_=>by simp
 | o::l,h=>by
  have h1:=z1z l fun o ho=>h o (List.mem_cons_of_mem _ ho)
  have h2:=h o List.mem_cons_self
  simp only [List.flatMap_cons,lla,llc,Nat.succ_mul]
  omega
theorem z5j {M:List Blk} {k x:Blk} {p g n:Nat} {F:Nat->Prop} {v:IV} {bs rs:List (List IV)} (hP:yJ L p F bs) (hM:M.length=g) (hg:(L++[x]).length=g) (hkM:Keep (fun t=>F t/\t≠p) (L++[x]) M) (hvM:M[p]?=some (.cells 1 [[v]]))
  (hk:k=.cells 1 (bs++rs)\/k=.tcells 5 1 (bs++rs)) (hbr:zx rs) (hne:rs≠[]) (hn:bs.length+rs.length=n) :
  ∃F',yJ ((M++[k]).set p (.cells 1 [[.sl g 0 n n]])) p F' (bs++rs)/\Grown F F' L ((M++[k]).set p (.cells 1 [[.sl g 0 n n]]))/\Keep F L ((M++[k]).set p (.cells 1 [[.sl g 0 n n]])):=by
 obtain ⟨_,_,hb0,_⟩:=id hP
 have hlt:=hP.lt
 refine ⟨fun t=>t=p\/t=g,z1G hvM hk (hb0.app hbr) (by intro h;exact hne (List.append_eq_nil_iff.1 h).2) hM (by rw [lla,hn]),?_,?_⟩
 ·rintro t (rfl | rfl)
  ·exact .inl hlt.2.1
  ·right;simp only [lls,lla,llc,lln] at *;omega
 ·have k1:Keep F L M:=Keep.trans (Keep.app Keep.refl) (hkM.mono (F':=F) fun t _ h=>h.1) fun _ _ h=>h
  exact Keep.set (Keep.app k1) fun _=>hlt.2.1
theorem z6h (hP:E.P=Tryz.prog) {b s:Nat} {l:List OpV} (hb:L[b]?=some (.cells 1 [[.sl s 0 l.length l.length]])) (hs:L[s]?=some (.cells 3 (zA l))) (hl:l.length<=100000) (ho:∀o∈l,o.ok):Writes E L 181 [.ptr b 0 0] (opsR l):=by
 intro L1 p hk hp hpen
 have hb1:=hk.get hb fun h=>h
 have lb1:=zg hb1
 have hs1:=hk.get hs fun h=>h
 have hbl:=zf hb
 have hsl:=zf hs
 refine xt2 (fn:=Tryz.f181) (rs:=[]) (c:=q181) hP fun ρ h0 h1=>?_
 unfold q181
 simp only [h0,h1,hb1,go_sem,Nat.reduceEqDiff,reduceIte]
 refine zh (Yq (E:=E.noPan) hP hpen (by omega) (by simp)) ?_
 rintro r L2 ⟨rfl,⟨F2,hP2,hG2⟩,hK2⟩
 have hb2:=hK2.get hb1 (by omega)
 have lb2:=zg hb2
 simp only [h1,hb2,go_sem,Nat.reduceEqDiff,reduceIte]
 refine zT (fun n ρ L3=>∃i:Nat,i<=l.length/\n=l.length - i/\ρ 0=.ptr p 0 0/\ρ 9=.sl s 0 l.length l.length/\ρ 10=.int .i64 l.length/\ρ 11=.int .i64 i/\∃F',yJ L3 p F' (numR l.length++(l.take i).flatMap OpV.bytes)/\Grown (fun t=>t=p) F' L1 L3/\Keep (fun t=>t=p) L1 L3)
  ⟨0,Nat.zero_le _,rfl,by simp only [h0,go_sem,Nat.reduceEqDiff,reduceIte],by simp only [go_sem,Nat.reduceEqDiff,reduceIte],by simp only [go_sem,Nat.reduceEqDiff,reduceIte],by simp only [go_sem,Nat.reduceEqDiff,reduceIte]<;>rfl,F2,by simpa using hP2,hG2,hK2⟩ ?_
 clear h0 h1 hP2 hG2 hK2 hb2 lb2 ρ
 rintro n ρ L3 ⟨i,hi,rfl,h0,h9,h10,h11,F3,hP3,hG3,hK3⟩
 have hs3:=hK3.get hs1 (by omega)
 have ls3:=zg hs3
 by_cases hc:i<l.length
 ·have e1:((i:Int)<(l.length:Int))=True:=eq_true (by omega)
  have e0:((0:Int)<=(i:Int))=True:=eq_true (by omega)
  obtain ⟨o,hoe⟩:∃o,o=l[i]:=⟨_,rfl⟩
  have hog:l[i]?=some o:=by rw [hoe];exact List.getElem?_eq_getElem hc
  have hom:o∈l:=List.mem_of_getElem? hog
  obtain ⟨ok1,ok2,ok3⟩:=ho o hom
  have hrl:(zA l).length=l.length:=by simp [zA]
  have hg:(zA l)[i]?=some o.row:=by simp [zA,hog]
  have hgd:(zA l).getD i []=[.str o.key,.str o.val,.bool o.gone]:=by rw [List.getD_eq_getElem?_getD,hg];rfl
  have hic:i<(zA l).length:=by omega
  have hw:IntKind.i64.wrap ((i:Int)+1)=((i+1:Nat):Int):=by rw [wrap64 (by omega) (by omega)];rfl
  have hbl:=z1z (f:=OpV.bytes) (m:=2097169) (l.take i) fun o h=>by
   have h1:=List.mem_of_mem_take h
   have:=OpV.bytes_len (ho o h1)
   have:=(ho o h1).1
   have:=(ho o h1).2.1
   omega
  have hnl:=zF l.length
  have hns:=Za (n:=l.length) (k:=7) (by omega)
  have htl:(l.take i).length=i:=by simp;omega
  rw [htl] at hbl
  have hlen:(numR l.length++(l.take i).flatMap OpV.bytes).length<=i*2097169+8:=by rw [lla];omega
  simp only [h0,h9,h10,h11,e1,e0,hs3,hgd,hic,Int.toNat_natCast,go_sem,Nat.reduceEqDiff,reduceIte,Nat.reduceAdd]
  have ht:l.take (i+1)=l.take i++[o]:=by rw [List.take_add_one,hog];rfl
  have hp3:=hP3.lt
  have k34:Keep none' L3 (L3++[Blk.cells 3 [[IV.str o.key,IV.str o.val,IV.bool o.gone]]]):=by (repeat' first | exact Keep.refl | apply Keep.app | apply Keep.set)<;>(intro hh;first | rfl | (exfalso;first | omega | (simp only [lla,lls,llc,lln] at hh;omega)))
  refine zh (z1t (E:=E.noPan) hP (hP3.keep k34 fun _ _ h=>h) ok1 (by omega)) ?_
  rintro r L4 ⟨rfl,⟨F4,hP4,hG4⟩,hK4⟩
  have ho4:L4[L3.length]?=some (.cells 3 [[.str o.key,.str o.val,.bool o.gone]]):=hK4.get (by simp only [go_sem]) fun h=>by have:=hp3.2.2 _ h;omega
  have lo4:=zg ho4
  obtain ⟨v4,hv4,hbr4,_⟩:=id hP4
  have lp4:=zg hv4
  have hp4:=hP4.lt
  have hkl:=zW o.key ok1
  have G4:Grown (fun t=>t=p) F4 L1 L4:=hG3.trans (h1:=hK3.1) (h2:=Nat.le_trans k34.1 hK4.1) fun t ht=>by
   rcases hG4 t ht with h | ⟨h,h'⟩
   ·exact .inl h
   ·right;simp only [lla,llc,lln] at h;omega
  have K4:Keep (fun t=>t=p) L1 L4:=(hK3.trans k34 fun _ _ h=>h.elim).trans hK4 fun t htl h=>by
   rcases hG3 t h with h | h
   ·exact h
   ·omega
  cases hgo:o.gone with
  | true=>
   have hval:o.val=[]:=ok3 hgo
   rw [hgo] at ho4
   simp only [h0,ho4,hv4,go_sem,Nat.reduceEqDiff,reduceIte,Nat.reduceAdd,Nat.reduceLT]
   refine JP (rs:=[[.int .u8 1]]) (by simp only [hv4,lp4,go_sem]) (hP4.keep (G:=none') (by (repeat' first | exact Keep.refl | apply Keep.app | apply Keep.set)<;>(intro hh;first | rfl | (exfalso;first | omega | (simp only [lla,lls,llc,lln] at hh;omega)))) fun _ _ h=>h) (fun r hr=>by simp at hr;exact ⟨_,hr⟩) (by simp) (yF (by simp only [go_sem]) rfl) (by simp only [lla,llc,lln] at *;omega) rfl ?_
   intro M k hM hkM hk
   have hvM:M[p]?=some (.cells 1 [[v4]]):=hkM.get (by simp only [lp4,hv4,go_sem]) fun h=>h.2 rfl
   have lpM:=zg hvM
   have hoM:M[L3.length]?=some (.cells 3 [[.str o.key,.str o.val,.bool true]]):=hkM.get (by simp only [lo4,ho4,go_sem]) fun h=>by
    rcases hG4 _ h.1 with h | h
    ·have:=hp3.2.2 _ h;omega
    ·simp only [lla,llc,lln] at h;omega
   have loM:=zg hoM
   have q1:(p=L3.length)=False:=eq_false (by omega)
   have q2:(L3.length=p)=False:=eq_false (by omega)
   have hlr:[[IV.int .u8 1]].length=1:=rfl
   obtain ⟨F5,hP5,hG5,hK5⟩:=z5j (rs:=[[.int .u8 1]]) hP4 hM rfl hkM hvM hk (fun r hr=>by simp at hr;exact ⟨_,hr⟩) (by simp) rfl
   simp only [h0,h9,h10,h11,hvM,lpM,hoM,loM,q1,hval,hw,go_sem,Nat.reduceEqDiff,reduceIte,Nat.reduceAdd,Nat.reduceLT]
   refine ⟨l.length - (i+1),by omega,i+1,by omega,rfl,rfl,F5,?_,G4.trans hG5 K4.1 hK5.1,K4.trans hK5 fun t htl h=>?_⟩
   ·have e5:numR l.length++(l.take (i+1)).flatMap OpV.bytes=numR l.length++(l.take i).flatMap OpV.bytes++txtR o.key++[[IV.int .u8 1]]:=by
     rw [ht,List.flatMap_append]
     simp [OpV.bytes,hgo]
    rw [e5]
    exact hP5
   ·rcases G4 t h with h | h
    ·exact h
    ·omega
  | false=>
   rw [hgo] at ho4
   simp only [h0,ho4,hv4,go_sem,Nat.reduceEqDiff,reduceIte,Nat.reduceAdd,Nat.reduceLT]
   refine JP (rs:=[[.int .u8 0]]) (by simp only [hv4,lp4,go_sem]) (hP4.keep (G:=none') (by (repeat' first | exact Keep.refl | apply Keep.app | apply Keep.set)<;>(intro hh;first | rfl | (exfalso;first | omega | (simp only [lla,lls,llc,lln] at hh;omega)))) fun _ _ h=>h) (fun r hr=>by simp at hr;exact ⟨_,hr⟩) (by simp) (yF (by simp only [go_sem]) rfl) (by simp only [lla,llc,lln] at *;omega) rfl ?_
   intro M k hM hkM hk
   have hvM:M[p]?=some (.cells 1 [[v4]]):=hkM.get (by simp only [lp4,hv4,go_sem]) fun h=>h.2 rfl
   have lpM:=zg hvM
   have hoM:M[L3.length]?=some (.cells 3 [[.str o.key,.str o.val,.bool false]]):=hkM.get (by simp only [lo4,ho4,go_sem]) fun h=>by
    rcases hG4 _ h.1 with h | h
    ·have:=hp3.2.2 _ h;omega
    ·simp only [lla,llc,lln] at h;omega
   have loM:=zg hoM
   have q1:(p=L3.length)=False:=eq_false (by omega)
   have q2:(L3.length=p)=False:=eq_false (by omega)
   obtain ⟨F5,hP5,hG5,hK5⟩:=z5j (rs:=[[.int .u8 0]]) hP4 hM rfl hkM hvM hk (fun r hr=>by simp at hr;exact ⟨_,hr⟩) (by simp) rfl
   simp only [h0,hvM,lpM,hoM,loM,q1,go_sem,Nat.reduceEqDiff,reduceIte,Nat.reduceAdd,Nat.reduceLT]
   refine zh (z1t (E:=E.noPan) hP hP5 ok2 (by simp only [lla,llc,lln] at *;omega)) ?_
   rintro r L6 ⟨rfl,⟨F6,hP6,hG6⟩,hK6⟩
   simp only [h0,h9,h10,h11,hw,go_sem,Nat.reduceEqDiff,reduceIte]
   have G5:=G4.trans hG5 K4.1 hK5.1
   have K5:Keep (fun t=>t=p) L1 _:=K4.trans hK5 fun t htl h=>by
    rcases G4 t h with h | h
    ·exact h
    ·omega
   refine ⟨l.length - (i+1),by omega,i+1,by omega,rfl,rfl,F6,?_,G5.trans hG6 K5.1 hK6.1,K5.trans hK6 fun t htl h=>?_⟩
   ·have e5:numR l.length++(l.take (i+1)).flatMap OpV.bytes=numR l.length++(l.take i).flatMap OpV.bytes++txtR o.key++[[IV.int .u8 0]]++txtR o.val:=by
     rw [ht,List.flatMap_append]
     simp [OpV.bytes,hgo]
    rw [e5]
    exact hP6
   ·rcases G5 t h with h | h
    ·exact h
    ·omega
 ·have e1:((i:Int)<(l.length:Int))=False:=eq_false (by omega)
  simp only [h10,h11,e1,go_sem,reduceIte]
  have hil:i=l.length:=by omega
  subst hil
  rw [List.take_length] at hP3
  exact ⟨⟨F3,hP3,hG3⟩,hK3⟩
theorem zbq (hP:E.P=Tryz.prog) {s:Nat} {l:List OpV} (hs:L[s]?=some (.cells 3 (zA l))) (hl:l.length<=100000) (ho:∀o∈l,o.ok):XT E 120 [.sl s 0 l.length l.length] L fun r L'=>∃v,r=.tup [v,.int .i64 0]/\NewB L L' v (opsR l)/\Keep none' L L':=by
 have ls:=zg hs
 refine xt1 (fn:=Tryz.f120) (rs:=[.tmp 2,.tmp 3]) (c:=q120) hP fun ρ h0=>?_
 unfold q120
 simp only [h0,go_sem,Nat.reduceEqDiff,reduceIte]
 refine zh (Y7 (E:=E.noPan) hP (z6h hP (b:=L.length) (s:=s) (by simp only [go_sem]<;>rfl) (by simp only [hs,ls,go_sem]) hl ho) (by simp [opsR,numR])) ?_
 rintro r L' ⟨v,rfl,⟨g,rfl,hg,hb,hr⟩,hk⟩
 simp only [go_sem,Nat.reduceEqDiff,reduceIte,Nat.reduceAdd,Nat.reduceLT]
 exact ⟨_,rfl,⟨g,rfl,by simp at hg;omega,hb,hr⟩,Keep.trans (Keep.app Keep.refl) hk fun _ _ h=>h⟩
end
end Go.X.TryzW
end
section
open Go Go.X Go.Proofs
set_option maxRecDepth 100000
set_option maxHeartbeats 4000000
namespace Go.X.TryzW
def q151 : XC :=(sO [oI 4 0,oV 5 (.bool false)] (sO [oM 10 0,oY 11 10,oM 6 11] (sO [oM 12 6,oI 7 0,oM 8 12] (.seq (.block 0 (.loop (.seq (sO [oM 13 7,oM 14 8,oB 15 .lss 13 14] (cT 15 .skip (.exit 0))) (.block 1 (sO [oM 16 7,oM 17 8,oB 18 .add 16 17,oO 19 (.cvInt .u64 (.t 18)),oO 20 (.bin .shr (.t 19) (.c (.int .u64 1))),oO 21 (.cvInt .i64 (.t 20)),oM 9 21] (sO [oM 22 0,oM 23 9,oO 24 (.idxS 1 (.t 22) (.t 23)),oL 25 24,oM 26 1,oC 27 209 [.t 25,.t 26]] (cT 27 (.ops [oM 28 9,oK 29 .add 28 1,oM 7 29]) (.ops [oM 30 9,oM 8 30])))))))) (sO [oM 31 7,oM 32 7,oM 33 6,oB 34 .lss 32 33,oM 35 34,oG 36 35 true (.mov (.t 0)),oG 37 35 true (.mov (.t 7)),oG 38 35 true (.idxS 1 (.t 36) (.t 37)),oG 39 35 true (.load1 (.t 38)),oG 40 35 true (.mov (.t 1)),oG 41 35 true (.bin .eql (.t 39) (.t 40)),oG 42 35 true (.mov (.t 41)),oG 43 42 false (.mov (.t 0)),oG 44 42 false (.mov (.t 7)),oG 45 42 false (.idxS 1 (.t 43) (.t 44)),oG 46 42 false (.load1 (.t 45)),oG 47 42 false (.call (.f 210) [.t 46]),oG 48 42 false (.mov (.t 47)),oG 49 48 true (.mov (.t 1)),oG 50 48 true (.call (.f 210) [.t 49]),oG 51 42 false (.pick (.t 48) (.t 50) (.c (.bool false))),oG 52 35 true (.pick (.t 42) (.c (.bool true)) (.t 51)),oO 53 (.pick (.t 35) (.t 52) (.c (.bool false))),oM 4 31,oM 5 53] .ret)))))
def q209 : XC :=(sO [oV 4 (.bool false)] (sO [oM 5 0,oC 6 272 [.t 5],oM 7 6,oG 8 7 true (.mov (.t 1)),oG 9 7 true (.call (.f 272) [.t 8]),oG 10 7 true (.un .not (.t 9)),oO 11 (.pick (.t 7) (.t 10) (.c (.bool false))),oM 12 11,oG 13 12 false (.mov (.t 0)),oG 14 12 false (.mov (.t 1)),oG 15 12 false (.bin .lss (.t 13) (.t 14)),oO 16 (.pick (.t 12) (.c (.bool true)) (.t 15)),oM 4 16] .ret))
def q210 : XC :=(sO [oV 2 (.bool false)] (sO [oM 3 0,oM 4 0,oB 5 .neq 3 4,oM 2 5] .ret))
def q272 : XC :=(sO [oV 2 (.bool false)] (sO [oM 3 0,oM 4 0,oB 5 .neq 3 4,oM 2 5] .ret))
def q161 : XC :=(sO [oV 4 (.bool false)] (sO [oM 5 0,oM 6 1,oC 7 223 [.t 5,.t 6],oK 8 .geq 7 0,oM 4 8] .ret))
def q223 : XC :=(sO [oI 4 0] (.seq (sO [oM 6 0,oY 7 6,oI 8 0] (.block 0 (.loop (sO [oB 9 .lss 8 7] (.seq (cT 9 .skip (.exit 0)) (.seq (.block 1 (sO [oM 10 8,oM 5 10] (sO [oM 11 1,oM 12 0,oM 13 5,oO 14 (.idxS 3 (.t 12) (.t 13)),oO 15 (.loadN 3 (.t 14)),oO 16 (.call (.t 11) [.t 15])] (cT 16 (sO [oM 17 5,oM 4 17] .ret) .skip)))) (.ops [oK 18 .add 8 1,oM 8 18]))))))) (sO [oO 4 (.mov (.c (.int .i64 (-1))))] .ret)))
def q162 : XC :=(sO [oO 1 (.box (.t 0)),oV 2 (.bool false)] (sO [oO 3 (.loadN 3 (.t 1)),oC 4 163 [.t 3],oO 5 (.un .not (.t 4)),oM 2 5] .ret))
def q163 : XC :=(sO [oO 1 (.box (.t 0)),oV 2 (.bool false)] (sO [oF 3 0 1,oL 4 3,oO 5 (.bin .neq (.t 4) (.c (.str []))),oM 6 5,oG 7 6 true (.fldA 0 (.t 1)),oG 8 6 true (.load1 (.t 7)),oG 9 6 true (.lenS (.t 8)),oG 10 6 true (.bin .leq (.t 9) (oi 200)),oO 11 (.pick (.t 6) (.t 10) (.c (.bool false))),oM 12 11,oG 13 12 true (.fldA 1 (.t 1)),oG 14 12 true (.load1 (.t 13)),oG 15 12 true (.lenS (.t 14)),oG 16 12 true (.bin .leq (.t 15) (oi 65536)),oO 17 (.pick (.t 12) (.t 16) (.c (.bool false))),oM 18 17,oG 19 18 true (.fldA 2 (.t 1)),oG 20 18 true (.load1 (.t 19)),oG 21 18 true (.mov (.t 20)),oG 22 21 true (.fldA 1 (.t 1)),oG 23 21 true (.load1 (.t 22)),oG 24 21 true (.bin .neq (.t 23) (.c (.str []))),oG 25 18 true (.pick (.t 21) (.t 24) (.c (.bool false))),oG 26 18 true (.un .not (.t 25)),oO 27 (.pick (.t 18) (.t 26) (.c (.bool false))),oM 2 27] .ret))
def q164 : XC :=(sO [oV 2 (.bool false)] (sO [oM 6 0,oC 7 120 [.t 6],oM 5 7,oX 8 0 5,oX 9 1 5,oM 3 8,oM 4 9] (sO [oM 10 4,oK 11 .neq 10 0,oM 12 11,oG 13 12 false (.mov (.t 3)),oG 14 12 false (.len (.t 13)),oG 15 12 false (.bin .gtr (.t 14) (oi 1048512)),oO 16 (.pick (.t 12) (.c (.bool true)) (.t 15)),oM 2 16] .ret)))
def q166 : XC :=(sO [oV 4 .nsl] (sO [oM 5 0,oO 6 (.bslice 1 [(.int .u8 0)] 1 [(0,(.t 5))]),oM 7 1,oO 8 (.ex (.appT 5 1) [.t 6,.t 7]),oM 4 8] .ret))
def q216 : XC :=(sO [oV 4 .nsl] (sO [oM 8 1,oC 9 84 [.t 8],oM 7 9,oX 10 0 7,oX 11 1 7,oM 5 10,oM 6 11] (sO [oM 12 0,oM 13 5,oC 14 166 [.t 12,.t 13],oM 4 14] .ret)))
def q167 : XC :=(sO [oV 2 .nsl] (.seq (sO [oM 3 0,oO 4 (.isNil 0 false (.t 3))] (cT 4 (sO [oV 2 .nsl] .ret) .skip)) (sO [oO 5 (.bslice 3 [(.str []),(.str []),(.bool false)] 0 []),oM 6 0,oO 7 (.append 3 40 (.t 5) (.t 6)),oM 2 7] .ret)))
section
variable {E:Env} {ρ:Rho} {L:List Blk} {K:IV->List Blk->Prop}
def keyR (ks:List (List UInt8)):List (List IV):=ks.map fun k=>[.str k]
theorem J7 (ks:List (List UInt8)):(keyR ks).length=ks.length:=by simp [keyR]
theorem z7Z (ks:List (List UInt8)):Rows 1 (keyR ks)=True:=eq_true fun r hr=>by
 obtain ⟨k,_,rfl⟩:=List.mem_map.1 hr
 rfl
theorem z9j (hP:E.P=Tryz.prog) (s:List UInt8):zI E 272 [.str s] (.bool false):=by
 refine yu (n:=Tryz.f272.ntmps) (c:=q272) (t:=2) (by rw [hP];rfl) (by rw [hP];kernel_rfl) (by decide) (Nat.le_of_ble_eq_true rfl) ?_
 generalize hρ:entry _=ρ
 have h0:ρ 0=.str s:=by rw [<-hρ];rfl
 clear hρ
 unfold q272
 simp only [h0,go_sem,Nat.reduceEqDiff,reduceIte]
 simp [conv,fuel]
theorem z8e (hP:E.P=Tryz.prog) (s:List UInt8):zI E 210 [.str s] (.bool false):=by
 refine yu (n:=Tryz.f210.ntmps) (c:=q210) (t:=2) (by rw [hP];rfl) (by rw [hP];kernel_rfl) (by decide) (Nat.le_of_ble_eq_true rfl) ?_
 generalize hρ:entry _=ρ
 have h0:ρ 0=.str s:=by rw [<-hρ];rfl
 clear hρ
 unfold q210
 simp only [h0,go_sem,Nat.reduceEqDiff,reduceIte]
 simp [conv,fuel]
theorem z8V (hP:E.P=Tryz.prog) (a b:List UInt8):zI E 209 [.str a,.str b] (.bool (Op.bytesLess a b)):=by
 refine yu (n:=Tryz.f209.ntmps) (c:=q209) (t:=4) (by rw [hP];rfl) (by rw [hP];kernel_rfl) (by decide) (Nat.le_of_ble_eq_true rfl) ?_
 generalize hρ:entry _=ρ
 have h0:ρ 0=.str a:=by rw [<-hρ];rfl
 have h1:ρ 1=.str b:=by rw [<-hρ];rfl
 clear hρ
 unfold q209
 simp only [h0,go_sem,Nat.reduceEqDiff,reduceIte]
 refine zq (args':=[.str a]) rfl (z9j (E:=E.noPan) hP a) rfl ?_
 simp only [h0,h1,go_sem,Nat.reduceEqDiff,reduceIte]
 rfl
theorem z2D (hP:E.P=Tryz.prog) {ks:List (List UInt8)} {t:List UInt8} {i:Nat} (hi:i<=ks.length) (h1:∀(j:Nat) (k:List UInt8),j<i->ks[j]?=some k->Op.bytesLess k t=true) (h2:∀(j:Nat) (k:List UInt8),i<=j->ks[j]?=some k->Op.bytesLess k t=false) (hN:ks.length<=1099511627776) :
  zI E 151 [.isl (keyR ks),.str t] (.tup [.int .i64 i,.bool (decide (ks[i]?=some t))]):=by
 have hlk:=J7 ks
 have lk:lenOf (.isl (keyR ks))=some ks.length:=by show some _=_;rw [hlk]
 have hR1:=z7Z ks
 refine zeG (n:=Tryz.f151.ntmps) (c:=q151) (t:=4) (t':=5) (by rw [hP];rfl) (by rw [hP];kernel_rfl) (by decide) (Nat.le_of_ble_eq_true rfl) ?_
 generalize hρ:entry _=ρ
 have h0:ρ 0=.isl (keyR ks):=by rw [<-hρ];rfl
 have h1:ρ 1=.str t:=by rw [<-hρ];rfl
 clear hρ
 unfold q151
 simp only [h0,zC lk,go_sem,Nat.reduceEqDiff,reduceIte]
 refine zT (fun m ρ L'=>∃lo hi:Nat,lo<=i/\i<=hi/\hi<=ks.length/\m=hi - lo/\L'=[]/\ρ 0=.isl (keyR ks)/\ρ 1=.str t/\ρ 6=.int .i64 ks.length/\ρ 7=.int .i64 lo/\ρ 8=.int .i64 hi)
  ⟨0,ks.length,Nat.zero_le _,hi,Nat.le_refl _,rfl,rfl,by simp only [h0,go_sem,Nat.reduceEqDiff,reduceIte],by simp only [h1,go_sem,Nat.reduceEqDiff,reduceIte],by simp only [go_sem,Nat.reduceEqDiff,reduceIte],by simp only [go_sem,Nat.reduceEqDiff,reduceIte]<;>rfl,by simp only [go_sem,Nat.reduceEqDiff,reduceIte]<;>rfl⟩ ?_
 clear h0 h1 ρ
 rintro m ρ L' ⟨lo,hh,a1,a2,a3,rfl,rfl,h0,h1',h6,h7,h8⟩
 by_cases hc:lo<hh
 ·have e1:((lo:Int)<(hh:Int))=True:=eq_true (by omega)
  obtain ⟨q,hq⟩:∃q,(lo+hh) / 2=q:=⟨_,rfl⟩
  have w1:IntKind.i64.wrap ((lo:Int)+(hh:Int))=((lo+hh:Nat):Int):=by rw [wrap64 (by omega) (by omega)];omega
  have w2:IntKind.u64.wrap ((lo+hh:Nat):Int)=((lo+hh:Nat):Int):=by simp [IntKind.wrap,IntKind.signed,IntKind.bits];omega
  have w3:bshr .u64 ((lo+hh:Nat):Int) 1=(q:Int):=by
   have e0:IntKind.u64.bits=64:=rfl
   unfold bshr
   rw [e0]
   show ((lo+hh:Nat):Int).fdiv 2=_
   rw [Int.fdiv_eq_ediv_of_nonneg _ (by decide)]
   omega
  have w4:IntKind.i64.wrap (q:Int)=(q:Int):=by rw [wrap64 (by omega) (by omega)]
  have w5:IntKind.i64.wrap ((q:Int)+1)=((q+1:Nat):Int):=by rw [wrap64 (by omega) (by omega)];omega
  have e0:((0:Int)<=(q:Int))=True:=eq_true (by omega)
  have hql:q<ks.length:=by omega
  obtain ⟨k,hk⟩:∃k,ks[q]?=some k:=⟨_,List.getElem?_eq_getElem hql⟩
  have hg:(keyR ks)[q]?=some [.str k]:=by simp [keyR,hk]
  have hgd:(keyR ks).getD q []=[.str k]:=by rw [List.getD_eq_getElem?_getD,hg];rfl
  have e2:((q:Int)<((keyR ks).length:Int))=True:=eq_true (by rw [hlk];omega)
  have e3:(q<(keyR ks).length)=True:=eq_true (by rw [hlk];omega)
  simp only [h0,h1',h7,h8,e1,w1,w2,w3,w4,e0,hR1,e2,e3,hgd,Int.toNat_natCast,go_sem,Nat.reduceEqDiff,reduceIte,Int.reduceLE]
  refine zq (args':=[.str k,.str t]) rfl (z8V (E:=E.noPan) hP k t) rfl ?_
  by_cases hqi:q<i
  ·have hl:=h1 q k hqi hk
   simp only [h0,h1',h6,h7,h8,hl,w5,go_sem,Nat.reduceEqDiff,reduceIte]
   exact ⟨hh - (q+1),by omega,q+1,hh,by omega,a2,a3,rfl,⟨rfl,rfl⟩⟩
  ·have hl:=h2 q k (by omega) hk
   simp only [h0,h1',h6,h7,h8,hl,go_sem,Nat.reduceEqDiff,reduceIte]
   exact ⟨q - lo,by omega,lo,q,a1,by omega,by omega,rfl,⟨rfl,rfl⟩⟩
 ·have e1:((lo:Int)<(hh:Int))=False:=eq_false (by omega)
  have hli:lo=i:=by omega
  subst hli
  by_cases hln:lo<ks.length
  ·have e2:((lo:Int)<(ks.length:Int))=True:=eq_true (by omega)
   have e0:((0:Int)<=(lo:Int))=True:=eq_true (by omega)
   obtain ⟨k,hk⟩:∃k,ks[lo]?=some k:=⟨_,List.getElem?_eq_getElem hln⟩
   have hg:(keyR ks)[lo]?=some [.str k]:=by simp [keyR,hk]
   have hgd:(keyR ks).getD lo []=[.str k]:=by rw [List.getD_eq_getElem?_getD,hg];rfl
   have e3:(lo<(keyR ks).length)=True:=eq_true (by rw [hlk];omega)
   have e4:((lo:Int)<((keyR ks).length:Int))=True:=eq_true (by rw [hlk];omega)
   by_cases hkt:k=t
   ·subst hkt
    simp only [h0,h1',h6,h7,h8,e1,e2,e0,hR1,e3,e4,hgd,Int.toNat_natCast,hk,go_sem,Nat.reduceEqDiff,reduceIte]
    exact ⟨rfl,rfl⟩
   ·have hkf:(k=t)=False:=eq_false hkt
    simp only [h0,h1',h6,h7,h8,e1,e2,e0,hR1,e3,e4,hgd,Int.toNat_natCast,hkf,go_sem,Nat.reduceEqDiff,reduceIte]
    refine zq (args':=[.str k]) rfl (z8e (E:=E.noPan) hP k) rfl ?_
    simp only [go_sem,Nat.reduceEqDiff,reduceIte]
    have hd:decide (ks[lo]?=some t)=false:=by rw [hk];simp [hkt]
    rw [hd]
    exact ⟨rfl,rfl⟩
  ·have e2:((lo:Int)<(ks.length:Int))=False:=eq_false (by omega)
   simp only [h6,h7,h8,e1,e2,go_sem,Nat.reduceEqDiff,reduceIte]
   have hd:decide (ks[lo]?=some t)=false:=by rw [List.getElem?_eq_none (by omega)];rfl
   rw [hd]
   exact ⟨rfl,rfl⟩
def OpV.fit (o:OpV):Prop:=o.key≠[]/\o.key.length<=200/\o.val.length<=65536/\(o.gone=true->o.val=[])
theorem OpV.fit.ok {o:OpV} (h:o.fit):o.ok:=⟨by have:=h.2.1;omega,by have:=h.2.2.1;omega,h.2.2.2⟩
theorem z6S (hP:E.P=Tryz.prog) {o:OpV} (h:o.fit):zI E 163 [.agg [.str o.key,.str o.val,.bool o.gone]] (.bool true):=by
 obtain ⟨h1,h2,h3,h4⟩:=h
 have f1:(o.key=[])=False:=eq_false h1
 have f2:((o.key.length:Int)<=200)=True:=eq_true (by omega)
 have f3:((o.val.length:Int)<=65536)=True:=eq_true (by omega)
 refine yu (n:=Tryz.f163.ntmps) (c:=q163) (t:=2) (by rw [hP];rfl) (by rw [hP];kernel_rfl) (by decide) (Nat.le_of_ble_eq_true rfl) ?_
 generalize hρ:entry _=ρ
 have h0:ρ 0=.agg [.str o.key,.str o.val,.bool o.gone]:=by rw [<-hρ];rfl
 clear hρ
 unfold q163
 simp only [h0,f1,f2,f3,go_sem,Nat.reduceEqDiff,reduceIte,Nat.reduceAdd,Nat.reduceLT]
 cases hg:o.gone with
 | true=>
  have f4:=h4 hg
  simp only [f4,go_sem,Nat.reduceEqDiff,reduceIte,Nat.reduceAdd,Nat.reduceLT]
  rfl
 | false=>
  simp only [go_sem,Nat.reduceEqDiff,reduceIte]
  rfl
theorem zaz (hP:E.P=Tryz.prog) {o:OpV} (h:o.fit):zI E 162 [.agg [.str o.key,.str o.val,.bool o.gone]] (.bool false):=by
 refine yu (n:=Tryz.f162.ntmps) (c:=q162) (t:=2) (by rw [hP];rfl) (by rw [hP];kernel_rfl) (by decide) (Nat.le_of_ble_eq_true rfl) ?_
 generalize hρ:entry _=ρ
 have h0:ρ 0=.agg [.str o.key,.str o.val,.bool o.gone]:=by rw [<-hρ];rfl
 clear hρ
 unfold q162
 simp only [h0,go_sem,Nat.reduceEqDiff,reduceIte,Nat.reduceAdd]
 refine zq (args':=[.agg [.str o.key,.str o.val,.bool o.gone]]) rfl (z6S (E:=E.noPan) hP h) rfl ?_
 simp only [go_sem,Nat.reduceEqDiff,reduceIte]
 rfl
theorem z9f (hP:E.P=Tryz.prog) {s:Nat} {l:List OpV} (hs:L[s]?=some (.cells 3 (zA l))) (hl:l.length<=100000) (ho:∀o∈l,o.fit):XT E 223 [.sl s 0 l.length l.length,.fn (.func 162) [] []] L fun r L'=>r=.int .i64 (-1)/\L'=L:=by
 have ls:=zg hs
 refine xt2 (fn:=Tryz.f223) (rs:=[.tmp 4]) (c:=q223) hP fun ρ h0 h1=>?_
 unfold q223
 simp only [h0,go_sem,Nat.reduceEqDiff,reduceIte]
 refine zT (fun n ρ L'=>∃i:Nat,i<=l.length/\n=l.length - i/\L'=L/\ρ 0=.sl s 0 l.length l.length/\ρ 1=.fn (.func 162) [] []/\ρ 7=.int .i64 l.length/\ρ 8=.int .i64 i)
  ⟨0,Nat.zero_le _,rfl,rfl,by simp only [h0,go_sem,Nat.reduceEqDiff,reduceIte],by simp only [h1,go_sem,Nat.reduceEqDiff,reduceIte],by simp only [go_sem,Nat.reduceEqDiff,reduceIte],by simp only [go_sem,Nat.reduceEqDiff,reduceIte]<;>rfl⟩ ?_
 clear h0 h1 ρ
 rintro n ρ L' ⟨i,hi,rfl,rfl,h0,h1,h7,h8⟩
 by_cases hc:i<l.length
 ·have e1:((i:Int)<(l.length:Int))=True:=eq_true (by omega)
  have e0:((0:Int)<=(i:Int))=True:=eq_true (by omega)
  obtain ⟨o,hoe⟩:∃o,o=l[i]:=⟨_,rfl⟩
  have hog:l[i]?=some o:=by rw [hoe];exact List.getElem?_eq_getElem hc
  have hom:o∈l:=List.mem_of_getElem? hog
  have hrl:(zA l).length=l.length:=by simp [zA]
  have hg:(zA l)[i]?=some o.row:=by simp [zA,hog]
  have hgd:(zA l).getD i []=[.str o.key,.str o.val,.bool o.gone]:=by rw [List.getD_eq_getElem?_getD,hg];rfl
  have hic:i<(zA l).length:=by omega
  have hw:IntKind.i64.wrap ((i:Int)+1)=((i+1:Nat):Int):=by rw [wrap64 (by omega) (by omega)];rfl
  simp only [h0,h1,h7,h8,e1,e0,hs,hgd,hic,Int.toNat_natCast,go_sem,Nat.reduceEqDiff,reduceIte,Nat.reduceAdd]
  refine zq (args':=[.agg [.str o.key,.str o.val,.bool o.gone]]) rfl (zaz (E:=E.noPan) hP (ho o hom)) rfl ?_
  simp only [h0,h1,h7,h8,hw,go_sem,Nat.reduceEqDiff,reduceIte]
  exact ⟨l.length - (i+1),by omega,i+1,by omega,rfl,rfl⟩
 ·have e1:((i:Int)<(l.length:Int))=False:=eq_false (by omega)
  simp only [h7,h8,e1,go_sem,Nat.reduceEqDiff,reduceIte,Int.reduceNeg]
theorem z4n (hP:E.P=Tryz.prog) {s:Nat} {l:List OpV} (hs:L[s]?=some (.cells 3 (zA l))) (hl:l.length<=100000) (ho:∀o∈l,o.fit):XT E 161 [.sl s 0 l.length l.length,.fn (.func 162) [] []] L fun r L'=>r=.bool false/\L'=L:=by
 refine xt2 (fn:=Tryz.f161) (rs:=[.tmp 4]) (c:=q161) hP fun ρ h0 h1=>?_
 unfold q161
 simp only [h0,h1,go_sem,Nat.reduceEqDiff,reduceIte]
 refine zh (z9f (E:=E.noPan) hP hs hl ho) ?_
 rintro r L' ⟨rfl,rfl⟩
 simp only [go_sem,Nat.reduceEqDiff,reduceIte,Int.reduceLE,Int.reduceNeg]
theorem YB {L':List Blk} {v:IV} {bs:List (List IV)} {n:Nat} (h:NewB L L' v bs):conv L' (n+2) (y7 L.length) v=some (.isl bs):=by
 obtain ⟨g,rfl,hg,hb,hr⟩:=h
 have h1:y7 L.length g=some none:=by simp [y7];omega
 rcases hb with hb | hb<;>simp [conv,h1,hb,Y8 hr]
theorem zbk (hP:E.P=Tryz.prog) {s:Nat} {l:List OpV} (hs:L[s]?=some (.cells 3 (zA l))) (hl:l.length<=100000) (ho:∀o∈l,o.ok):XT E 120 [.sl s 0 l.length l.length] L fun r L'=>r=.tup [.isl (opsR l),.int .i64 0]/\L'=L:=by
 refine Z7 (zbq hP hs hl ho) ?_
 rintro r L' ⟨v,rfl,hv,hk⟩
 exact ⟨hk,_,by simp only [fuel,conv,mapO,YB hv];rfl,rfl⟩
theorem JS (hP:E.P=Tryz.prog) {n:Nat} (hn:n<=4503599627370496):zI E 84 [.int .i64 n] (.tup [.isl (numR n),.int .i64 0]):=by
 refine Z7 (z8u hP hn) ?_
 rintro r L' ⟨v,rfl,hv,hk⟩
 exact ⟨hk,_,by simp only [fuel,conv,mapO,YB hv];rfl,rfl⟩
theorem zc4 (hP:E.P=Tryz.prog) {s:Nat} {l:List OpV} (hs:L[s]?=some (.cells 3 (zA l))) (hl:l.length<=100000) (ho:∀o∈l,o.ok) (hb:(opsR l).length<=1048512):XT E 164 [.sl s 0 l.length l.length] L fun r L'=>r=.bool false/\L'=L:=by
 have e1:((1048512:Int)<((opsR l).length:Int))=False:=eq_false (by omega)
 refine xt1 (fn:=Tryz.f164) (rs:=[.tmp 2]) (c:=q164) hP fun ρ h0=>?_
 unfold q164
 simp only [h0,go_sem,Nat.reduceEqDiff,reduceIte]
 refine zh (zbk (E:=E.noPan) hP hs hl ho) ?_
 rintro r L' ⟨rfl,rfl⟩
 have lo:lenOf (.isl (opsR l))=some (opsR l).length:=rfl
 simp only [zC lo,e1,go_sem,Nat.reduceEqDiff,reduceIte,Nat.reduceAdd,Nat.reduceLT]
theorem z0m (hP:E.P=Tryz.prog) {k:Int} {bs:List (List IV)} (hb:zx bs) (hne:bs≠[]) (hN:bs.length<=1099511627776):zI E 166 [.int .u8 k,.isl bs] (.isl ([.int .u8 k]::bs)):=by
 refine yu (n:=Tryz.f166.ntmps) (c:=q166) (t:=4) (by rw [hP];rfl) (by rw [hP];kernel_rfl) (by decide) (Nat.le_of_ble_eq_true rfl) ?_
 generalize hρ:entry _=ρ
 have h0:ρ 0=.int .u8 k:=by rw [<-hρ];rfl
 have h1:ρ 1=.isl bs:=by rw [<-hρ];rfl
 clear hρ
 unfold q166
 simp only [h0,h1,go_sem,Nat.reduceEqDiff,reduceIte]
 refine ja (rows:=[[.int .u8 k]]) (rs:=bs) rfl (.inl rfl) rfl rfl hb.rowsC hne (by simp;omega) ?_
 intro kb hkb
 have hr:zx ([.int .u8 k]::bs):=by
  intro r hr
  rcases List.mem_cons.1 hr with rfl | hr
  ·exact ⟨_,rfl⟩
  ·exact hb r hr
 have hle:0+(1+bs.length)<=([.int .u8 k]::bs).length:=by simp;omega
 simp only [go_sem]
 have hlt:([IV.int .u8 k]::bs).take (1+bs.length)=[IV.int .u8 k]::bs:=List.take_of_length_le (by simp;omega)
 rcases hkb with rfl | rfl<;>simp [fuel,conv,zy,Nat.add_comm 1 bs.length,Y8 hr]
theorem z4T (hP:E.P=Tryz.prog) {k:Int} {n:Nat} (hn:n<=4503599627370496):zI E 216 [.int .u8 k,.int .i64 n] (.isl ([.int .u8 k]::numR n)):=by
 refine yu (n:=Tryz.f216.ntmps) (c:=q216) (t:=4) (by rw [hP];rfl) (by rw [hP];kernel_rfl) (by decide) (Nat.le_of_ble_eq_true rfl) ?_
 generalize hρ:entry _=ρ
 have h0:ρ 0=.int .u8 k:=by rw [<-hρ];rfl
 have h1:ρ 1=.int .i64 n:=by rw [<-hρ];rfl
 clear hρ
 unfold q216
 simp only [h1,go_sem,Nat.reduceEqDiff,reduceIte]
 refine zq (args':=[.int .i64 n]) rfl (JS (E:=E.noPan) hP hn) rfl ?_
 simp only [h0,go_sem,Nat.reduceEqDiff,reduceIte,Nat.reduceAdd,Nat.reduceLT]
 have:=zF n
 have:=Za (n:=n) (k:=7) (by omega)
 refine zq (args':=[.int .u8 k,.isl (numR n)]) rfl (z0m (E:=E.noPan) hP (zH n) (z3Z n) (by omega)) rfl ?_
 simp only [go_sem,Nat.reduceEqDiff,reduceIte]
 rfl
theorem z7a {L:List Blk} {n:Nat} {m:Ren} (l:List OpV):mapO (mapO (conv L (n+1) m)) (zA l)=some (zA l):=by
 refine Yf fun r hr=>?_
 obtain ⟨o,_,rfl⟩:=List.mem_map.1 hr
 rfl
theorem z3p (hP:E.P=Tryz.prog) {s:Nat} {l:List OpV} (hs:L[s]?=some (.cells 3 (zA l))) (hl:l.length<=100000) (hne:l≠[]):XT E 167 [.sl s 0 l.length l.length] L fun r L'=>r=.sl (L.length+1) 0 l.length l.length/\L'=L++[.dead]++[.cells 3 (zA l)]:=by
 have ls:=zg hs
 have hrl:(zA l).length=l.length:=by simp [zA]
 have hpos:=List.length_pos_iff.2 hne
 refine xt1 (fn:=Tryz.f167) (rs:=[.tmp 2]) (c:=q167) hP fun ρ h0=>?_
 unfold q167
 simp only [h0,go_sem,Nat.reduceEqDiff,reduceIte,Nat.reduceAdd]
 refine ⟨?_,fun h=>by omega⟩
 have hrc:yj 3 (zA l):=fun r hr=>by
  obtain ⟨o,_,rfl⟩:=List.mem_map.1 hr
  exact ⟨rfl,rfl⟩
 refine Yg (rows:=[]) (rs:=zA l) (by simp only [go_sem]) rfl (Zz (sz:=3) (by simp only [hs,ls,go_sem]) hrl) hrc (by intro h;have h7:=congrArg List.length h;rw [hrl] at h7;simp only [lln] at h7;omega) (by rw [hrl];omega) ?_
 simp only [hrl,Nat.zero_add,go_sem,Nat.reduceEqDiff,reduceIte]
 simp
theorem z4p (hP:E.P=Tryz.prog) {s:Nat} {l:List OpV} (hs:L[s]?=some (.cells 3 (zA l))) (hl:l.length<=100000) (hne:l≠[]):XT E 167 [.sl s 0 l.length l.length] L fun r L'=>r=.isl (zA l)/\L'=L:=by
 have hrl:(zA l).length=l.length:=by simp [zA]
 refine Z7 (z3p hP hs hl hne) ?_
 rintro r L' ⟨rfl,rfl⟩
 have h1:y7 L.length (L.length+1)=some none:=by simp [y7]
 have h2:(L++[Blk.dead]++[Blk.cells 3 (zA l)])[L.length+1]?=some (.cells 3 (zA l)):=by simp
 refine ⟨by (repeat' first | exact Keep.refl | apply Keep.app | apply Keep.set)<;>(intro hh;first | rfl | (exfalso;first | omega | (simp only [lla,lls,llc,lln] at hh;omega))),_,?_,rfl⟩
 have h3:(zA l).take l.length=zA l:=List.take_of_length_le (by omega)
 simp [fuel,conv,h1,hrl,h3,z7a]
end
end Go.X.TryzW
end
