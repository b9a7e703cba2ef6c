/- Parts of the proof: Xhpen2, Xhpen3, Xhkv1, Xhdel. -/
import Derived.Test.YtnmhhmbeljlndaaGreatDoorXP13
import Derived.WalkKit
set_option linter.unusedVariables false
set_option linter.unusedSimpArgs false
set_option linter.unusedSectionVars false
section
open Go Go.X Go.Proofs
set_option maxRecDepth 100000
set_option maxHeartbeats 4000000
namespace Go.X.TryzW
section
variable {E:Env} {ρ:Rho} {L:List Blk} {K:IV->List Blk->Prop}
def q84 : XC :=(sO [oO 1 (.box (.t 0)),oV 2 .nsl,oI 3 0] (sO [oO 4 (.mkfn (.func 157) [] [.t 1]),oC 5 100 [.t 4],oX 6 0 5,oX 7 1 5,oM 2 6,oM 3 7] .ret))
def zkF : XC :=(.ops [oM 3 0,oL 4 1,oC 5 107 [.t 3,.t 4]])
def zfv : XC :=.ops [oO 2 (.alloc [.nsl]),oO 3 (.alloc [(.int .i64 0)])]
def zdu : XC :=sO [oO 6 (.build [.nsl] []),oO 7 (.box (.t 6)),oM 4 7] (sO [oM 8 0,oM 9 4,oO 10 (.call (.t 8) [.t 9])] (sO [oM 11 4,oN 12 11,oF 13 0 12,oL 14 13,oS 2 14,oU (.store 1 (.t 3) (oi 0))] .ret))
theorem z4r:z4n Tryz.prog 175 2:=by
 intro vs w j
 match vs,j with
 | [p,q],_=>
 have d:∀w:World,(binOp BinOp.eql 20 .nilIface .nilIface).run Tryz.prog w=.ok (.bool true) w:=fun _=>by kernel_rfl
 refine callsD_of_wpS Tryz.func175 rfl fun b cs h=>?_
 apply wpS_seq
 apply wpS_region
 simp [wpOpsS,go_sem,recoverD,h,Tryz.ntmps175,Exit.thenS]
 refine wpS_of_wp ?_
 go_wp
 cases b
 simp_all [bodyPostS,results,Tryz.results175]
def Writes (E:Env) (L:List Blk) (k:FuncId) (caps:List IV) (bs:List (List IV)):Prop:=∀(L1:List Blk) (p:Nat),Keep none' L L1->L.length<=p->yX L1 p (fun t=>t=p) []->
 XT E k (.ptr p 0 0::caps) L1 fun r L2=>r=.tup []/\(∃F',yX L2 p F' bs/\Grown (fun t=>t=p) F' L1 L2)/\Keep (fun t=>t=p) L1 L2
def zcz (L L':List Blk) (v:IV) (bs:List (List IV)):Prop:=∃g,v=.sl g 0 bs.length bs.length/\L.length<=g/\(L'[g]?=some (.cells 1 bs)\/L'[g]?=some (.tcells 5 1 bs))/\zA bs
theorem zcJ {k:FuncId} {caps:List IV} {bs:List (List IV)} (hc:Writes E L k caps bs) (l:bs≠[]) (lo:Nat) (kept:Nat->Value) (B:List Deferred) (O:ρ 0=.fn (.func k) [] caps) (h2:ρ 2=.ptr L.length 0 0) (T:ρ 3=.ptr (L.length+1) 0 0) :
  Zg (E.defr (fun _ _=>False) lo kept B) zdu ρ (L++[.cells 1 [[.nsl]]]++[.cells 1 [[.int .i64 0]]]) fun e ρ' L'=>(e=.ret\/e=.normal)/\ρ' 2=.ptr L.length 0 0/\ρ' 3=.ptr (L.length+1) 0 0/\
   ∃v,zcz L L' v bs/\L'[L.length]?=some (.cells 1 [[v]])/\L'[L.length+1]?=some (.cells 1 [[.int .i64 0]])/\Keep none' L L':=by
 unfold zdu
 simp only [O,go_sem]
 obtain ⟨p,j⟩:∃p,(L++[Blk.cells 1 [[.nsl]]]++[Blk.cells 1 [[.int .i64 0]]]).length=p:=⟨_,rfl⟩
 have D:p=L.length+2:=by rw [<-j];simp
 have m:=hc (L++[.cells 1 [[.nsl]]]++[.cells 1 [[.int .i64 0]]]++[.cells 1 [[.nsl]]]) p kP od ⟨.nsl,(by subst j;simp only [go_sem]),(by intro r I;cases I),.inl ⟨rfl,rfl,rfl⟩⟩
 rw [j]
 refine zh m ?_
 rintro r L2 ⟨rfl,⟨F',J,hG⟩,s⟩
 obtain ⟨v,A,d,⟨_,q,_⟩ | ⟨g,rfl,hg,_,u,rfl⟩⟩:=J
 ·exact absurd q l
 have b:=hG g (.inr rfl)
 have hgl:L.length+3<=g:=by
  rcases b with h | ⟨h,_⟩
  ·exact absurd h u
  ·simp only [lla,llc,lln] at h;omega
 have w:L2[L.length]?=some (.cells 1 [[.nsl]]):=s.get (by simp [List.getElem?_append]) od
 have e1:L2[L.length+1]?=some (.cells 1 [[.int .i64 0]]):=s.get (by simp [List.getElem?_append]) od
 have R:=zg w
 have Q:=zg e1
 have lp:=zg A
 have M:(L.length=L.length+1)=False:=fO
 have S:(L.length+1=L.length)=False:=fO
 have X:(L.length=p)=False:=fO
 have q4:(L.length+1=p)=False:=fO
 simp only [h2,T,A,w,e1,R,Q,M,S,go_sem]
 refine ⟨.inl trivial,_,⟨g,rfl,od,?_,d⟩,rfl,?_⟩
 ·have g0:¬L.length=g:=by omega
  have G:¬L.length+1=g:=by omega
  rw [List.getElem?_set_ne G,List.getElem?_set_ne g0]
  exact hg
 ·have k0:Keep none' L (L++[Blk.cells 1 [[IV.nsl]]]++[Blk.cells 1 [[IV.int .i64 0]]]++[Blk.cells 1 [[IV.nsl]]]):=kP
  have U:Keep none' L L2:=k0.trans s fun t V h=>by omega
  exact Keep.set (Keep.set U fun h=>by omega) fun h=>by omega
theorem Yp (j:E.P=Tryz.prog) {k:FuncId} {caps:List IV} {bs:List (List IV)} (hc:Writes E L k caps bs) (s:bs≠[]):XT E 100 [.fn (.func k) [] caps] L fun r L'=>∃v,r=.tup [v,.int .i64 0]/\zcz L L' v bs/\Keep none' L L':=by
 refine YA (fn:=Tryz.f100) (x1:=zfv) (x3:=zdu) (rs:=[.cell1 2,.cell1 3]) (d:=5) (k:=175) (lo:=4) (caps:=[2,3])
  (M:=fun b L1=>b 0=.fn (.func k) [] caps/\b 2=.ptr L.length 0 0/\b 3=.ptr (L.length+1) 0 0/\L1=L++[.cells 1 [[.nsl]]]++[.cells 1 [[.int .i64 0]]]) (PQ:=fun _ _ _=>False)
  (by rw [j];rfl) rfl (by decide) (Nat.le_of_ble_eq_true rfl) (by decide) (by rw [j];kernel_rfl) (by rw [j];kernel_rfl) (by rw [j];kernel_rfl) (by rfl) ⟨Tryz.f175,by rw [j];rfl,by decide,by rfl⟩ ?_ (by rfl) ?_ ?_ ?_ (by rw [j];exact z4r)
 ·intro Q a w hd D h
  apply wp_region
  obtain ⟨A,Y⟩:=a
  simp only at hd D
  subst hd
  have U:5<A.size:=by rw [D];decide
  have u:∀v:Value,(A.setIfInBounds 5 v).getD 5 undef=v:=fun v=>by rw [yN U,if_pos rfl]
  have V:∀(fn:Fn) (first cap:Array Value) (w:World),(Instr.makeFunc fn first cap).run E.P w=.ok (.func fn first cap) w:=fun _ _ _ _=>rfl
  have I:(List.range 2)=[0,1]:=rfl
  show wpOps E.P _ Q [0,1] _ w
  simp [wpOps,Oper.wp,Oper.upon,Region.wanted,go_sem,Act.eval,Act.put,u,execOp,resolve,Deferred.ofValue]
  refine .inl (.inl ?_)
  simpa using h
 ·generalize p:entry _=ρ
  have q:ρ 0=.fn (.func k) [] caps:=by rw [<-p];rfl
  clear p
  unfold zfv
  simp only [go_sem]
  exact ⟨q,by simp [put]⟩
 ·rintro b L1 ⟨q,h2,T,rfl⟩ kept B
  refine zK _ (fun e ρ' L' h=>?_) (zcJ hc s 4 kept B (by simp only [q,go_sem]) (by simp only [h2,go_sem]) (by simp only [T,go_sem]))
  obtain ⟨J,G,R,v,S,l,m,O⟩:=h
  refine ⟨J,?_⟩
  have Z:=zg l
  have X:=zg m
  simp only [Y6,YQ,ZJ,G,R,l,m,go_sem]
  exact ⟨v,rfl,S,O⟩
 ·rintro b L1 x L' _ h
  exact h.elim
theorem z1T (l:E.P=Tryz.prog) {b n:Nat} (u:L[b]?=some (.cells 1 [[.int .i64 n]])) (w:n<=4503599627370496):Writes E L 157 [.ptr b 0 0] (zL n):=by
 intro L1 p q A d
 have j:=q.get u fun h=>h
 have m:=zg j
 refine xt2 (fn:=Tryz.f157) (rs:=[]) (c:=zkF) l fun ρ s h1=>?_
 unfold zkF
 simp only [s,h1,j,go_sem]
 refine zh (YG (E:=E.noPan) l d w (by simp)) ?_
 rintro r L' ⟨rfl,h2,v⟩
 simp only [go_sem]
 exact ⟨h2,v⟩
theorem z4J (n:Nat):zL n≠[]:=by simp [zL]
theorem z9Q (d:E.P=Tryz.prog) {n:Nat} (q:n<=4503599627370496):XT E 84 [.int .i64 n] L fun r L'=>∃v,r=.tup [v,.int .i64 0]/\zcz L L' v (zL n)/\Keep none' L L':=by
 refine xt1 (fn:=Tryz.f84) (rs:=[.tmp 2,.tmp 3]) (c:=q84) d fun ρ m=>?_
 unfold q84
 simp only [m,go_sem]
 refine zh (Yp (E:=E.noPan) d (z1T d (b:=L.length) (n:=n) (by simp only [go_sem]<;>rfl) q) (z4J n)) ?_
 rintro r L' ⟨v,rfl,⟨g,rfl,hg,p,j⟩,l⟩
 simp only [go_sem]
 exact ⟨_,rfl,⟨g,rfl,by simp at hg;omega,p,j⟩,Keep.trans (Keep.app Keep.refl) l fun _ _ h=>h⟩
def zl4 : XC :=(sO [oO 1 (.box (.t 0)),oV 2 .nsl,oI 3 0] (sO [oO 4 (.mkfn (.func 181) [] [.t 1]),oC 5 100 [.t 4],oX 6 0 5,oX 7 1 5,oM 2 6,oM 3 7] .ret))
def zkN : XC :=(sO [oM 5 0,oL 6 1,oY 7 6,oC 8 107 [.t 5,.t 7]] (sO [oL 9 1,oY 10 9,oI 11 0] (.block 0 (.loop (sO [oB 12 .lss 11 10] (.seq (cT 12 .skip (.exit 0)) (.seq (.block 1 (sO [oO 13 (.idxS 3 (.t 9) (.t 11)),oO 14 (.loadN 3 (.t 13)),oO 4 (.alloc [(.str []),(.str []),(.bool false)]),oU (.store 3 (.t 4) (.t 14))] (sO [oM 15 0,oF 16 0 4,oL 17 16,oC 18 106 [.t 15,.t 17]] (.seq (sO [oF 19 2 4,oL 20 19] (cT 20 (sO [oM 21 0,oM 22 0,oN 23 22,oF 24 0 23,oL 25 24,oO 26 (.bslice 1 [(.int .u8 0)] 1 [(0,(.c (.int .u8 1)))]),oO 27 (.ex (.appT 5 1) [.t 25,.t 26]),oN 28 21,oF 29 0 28,oS 29 27] (.seq (sO [oF 30 1 4,oL 31 30,oO 32 (.bin .neq (.t 31) (.c (.str [])))] (cT 32 (.ops [oO 33 (.build [(.int .i64 0)] []),oO 34 (.ex (.mkif 274) [.t 33]),oU (.ex .panic [.t 34])]) .skip)) (.exit 1))) .skip)) (sO [oM 35 0,oM 36 0,oN 37 36,oF 38 0 37,oL 39 38,oO 40 (.bslice 1 [(.int .u8 0)] 1 [(0,(.c (.int .u8 0)))]),oO 41 (.ex (.appT 5 1) [.t 39,.t 40]),oN 42 35,oF 43 0 42,oS 43 41] (.ops [oM 44 0,oF 45 1 4,oL 46 45,oC 47 106 [.t 44,.t 46]])))))) (.ops [oK 48 .add 11 1,oM 11 48]))))))))
structure OpV where
 key:List UInt8
 val:List UInt8
 gone:Bool
def OpV.row (o:OpV):List IV:=[.str o.key,.str o.val,.bool o.gone]
def OpV.ok (o:OpV):Prop:=o.key.length<=1048576/\o.val.length<=1048576/\(o.gone=true->o.val=[])
def OpV.bytes (o:OpV):List (List IV):=zH o.key++if o.gone then [[.int .u8 1]] else [[.int .u8 0]]++zH o.val
def zB (l:List OpV):List (List IV):=l.map OpV.row
def yI (l:List OpV):List (List IV):=zL l.length++l.flatMap OpV.bytes
theorem zZ (s:List UInt8) (h:s.length<=1048576):(zH s).length<=s.length+8:=by
 have:=Zj (n:=s.length) (k:=7) od
 have h1:=zM s.length
 have h2:(zk s).length=s.length:=by simp [zk]
 unfold zH
 rw [lla]
 omega
theorem OpV.bytes_len {o:OpV} (h:o.ok):o.bytes.length<=o.key.length+o.val.length+17:=by
 obtain ⟨h1,h2,b⟩:=h
 have e1:=zZ o.key h1
 have d:=zZ o.val h2
 unfold OpV.bytes
 rw [lla]
 split
 ·simp;omega
 ·simp only [lla,llc,lln];omega
theorem z4T {m:Nat} {f:OpV->List (List IV)}:∀(l:List OpV),(∀o∈l,(f o).length<=m)->(l.flatMap f).length<=l.length*m
 | [],_=>by simp
 | o::l,h=>by
  have h1:=z4T l fun o b=>h o (List.mem_cons_of_mem _ b)
  have h2:=h o List.mem_cons_self
  simp only [List.flatMap_cons,lla,llc,Nat.succ_mul]
  omega
theorem z5U {M:List Blk} {k x:Blk} {p g n:Nat} {F:Nat->Prop} {v:IV} {bs rs:List (List IV)} (r:yX L p F bs) (s:M.length=g) (hg:(L++[x]).length=g) (j:Keep (fun t=>F t/\t≠p) (L++[x]) M) (q:M[p]?=some (.cells 1 [[v]]))
  (A:k=.cells 1 (bs++rs)\/k=.tcells 5 1 (bs++rs)) (m:zA rs) (d:rs≠[]) (w:bs.length+rs.length=n) :
  ∃F',yX ((M++[k]).set p (.cells 1 [[.sl g 0 n n]])) p F' (bs++rs)/\Grown F F' L ((M++[k]).set p (.cells 1 [[.sl g 0 n n]]))/\Keep F L ((M++[k]).set p (.cells 1 [[.sl g 0 n n]])):=by
 obtain ⟨_,_,l,_⟩:=id r
 have b:=r.lt
 refine ⟨fun t=>t=p\/t=g,z1k q A (l.app m) (by intro h;exact d (List.append_eq_nil_iff.1 h).2) s (by rw [lla,w]),?_,?_⟩
 ·rintro t (rfl | rfl)
  ·exact .inl b.2.1
  ·right;simp only [lls,lla,llc,lln] at *;omega
 ·have u:Keep F L M:=Keep.trans (Keep.app Keep.refl) (j.mono (F':=F) fun t _ h=>h.1) fun _ _ h=>h
  exact Keep.set (Keep.app u) fun _=>b.2.1
theorem z7E (hP:E.P=Tryz.prog) {b s:Nat} {l:List OpV} (hb:L[b]?=some (.cells 1 [[.sl s 0 l.length l.length]])) (hs:L[s]?=some (.cells 3 (zB l))) (hl:l.length<=100000) (ho:∀o∈l,o.ok):Writes E L 181 [.ptr b 0 0] (yI l):=by
 intro L1 p hk hp ay
 have ak:=hk.get hb fun h=>h
 have iy:=zg ak
 have cu:=hk.get hs fun h=>h
 have bu:=zf hb
 have gu:=zf hs
 refine xt2 (fn:=Tryz.f181) (rs:=[]) (c:=zkN) hP fun ρ I h1=>?_
 unfold zkN
 simp only [I,h1,ak,go_sem]
 refine zh (YG (E:=E.noPan) hP ay od (by simp)) ?_
 rintro r L2 ⟨rfl,⟨F2,bn,au⟩,Z⟩
 have aj:=Z.get ak od
 have dh:=zg aj
 simp only [h1,aj,go_sem]
 refine zC (fun n ρ L3=>∃i:Nat,i<=l.length/\n=l.length - i/\ρ 0=.ptr p 0 0/\ρ 9=.sl s 0 l.length l.length/\ρ 10=.int .i64 l.length/\ρ 11=.int .i64 i/\∃F',yX L3 p F' (zL l.length++(l.take i).flatMap OpV.bytes)/\Grown (fun t=>t=p) F' L1 L3/\Keep (fun t=>t=p) L1 L3)
  ⟨0,Nat.zero_le _,rfl,by simp only [I,go_sem],by simp only [go_sem],by simp only [go_sem],by simp only [go_sem]<;>rfl,F2,by simpa using bn,au,Z⟩ ?_
 clear I h1 bn au Z aj dh ρ
 rintro n ρ L3 ⟨i,hi,rfl,I,h9,R,S,F3,O,U,J⟩
 have az:=J.get cu od
 have iq:=zg az
 by_cases hc:i<l.length
 ·have e1:((i:Int)<(l.length:Int))=True:=tO
  have e0:((0:Int)<=(i:Int))=True:=tO
  obtain ⟨o,dw⟩:∃o,o=l[i]:=⟨_,rfl⟩
  have ag:l[i]?=some o:=by rw [dw];exact List.getElem?_eq_getElem hc
  have ed:o∈l:=List.mem_of_getElem? ag
  obtain ⟨bf,dm,bz⟩:=ho o ed
  have ik:(zB l).length=l.length:=by simp [zB]
  have hg:(zB l)[i]?=some o.row:=by simp [zB,ag]
  have df:(zB l).getD i []=[.str o.key,.str o.val,.bool o.gone]:=by rw [List.getD_eq_getElem?_getD,hg];rfl
  have dn:i<(zB l).length:=by omega
  have hw:IntKind.i64.wrap ((i:Int)+1)=((i+1:Nat):Int):=wR
  have bu:=z4T (f:=OpV.bytes) (m:=2097169) (l.take i) fun o h=>by
   have h1:=List.mem_of_mem_take h
   have:=OpV.bytes_len (ho o h1)
   have:=(ho o h1).1
   have:=(ho o h1).2.1
   omega
  have gz:=zM l.length
  have iw:=Zj (n:=l.length) (k:=7) od
  have B:(l.take i).length=i:=by simp;omega
  rw [B] at bu
  have gq:(zL l.length++(l.take i).flatMap OpV.bytes).length<=i*2097169+8:=by rw [lla];omega
  simp only [I,h9,R,S,e1,e0,az,df,dn,Int.toNat_natCast,go_sem]
  have ht:l.take (i+1)=l.take i++[o]:=by rw [List.take_add_one,ag];rfl
  have Y:=O.lt
  have V:Keep none' L3 (L3++[Blk.cells 3 [[IV.str o.key,IV.str o.val,IV.bool o.gone]]]):=kP
  refine zh (z1B (E:=E.noPan) hP (O.keep V fun _ _ h=>h) bf od) ?_
  rintro r L4 ⟨rfl,⟨F4,v,X⟩,af⟩
  have q:L4[L3.length]?=some (.cells 3 [[.str o.key,.str o.val,.bool o.gone]]):=af.get (by simp only [go_sem]) fun h=>by have:=Y.2.2 _ h;omega
  have ax:=zg q
  obtain ⟨v4,d,gp,_⟩:=id v
  have Q:=zg d
  have gy:=v.lt
  have ku:=zZ o.key bf
  have G4:Grown (fun t=>t=p) F4 L1 L4:=U.trans (h1:=J.1) (h2:=Nat.le_trans V.1 af.1) fun t ht=>by
   rcases X t ht with h | ⟨h,h'⟩
   ·exact .inl h
   ·right;simp only [lla,llc,lln] at h;omega
  have K4:Keep (fun t=>t=p) L1 L4:=(J.trans V fun _ _ h=>h.elim).trans af fun t B h=>by
   rcases U t h with h | h
   ·exact h
   ·omega
  cases hgo:o.gone with
  | true=>
   have bg:o.val=[]:=bz hgo
   rw [hgo] at q
   simp only [I,q,d,go_sem]
   refine Jy (rs:=[[.int .u8 1]]) (by simp only [d,Q,go_sem]) (v.keep (G:=none') kP fun _ _ h=>h) (fun r w=>by simp at w;exact ⟨_,w⟩) (by simp) (ZM (by simp only [go_sem]) rfl) (by simp only [lla,llc,lln] at *;omega) rfl ?_
   intro M k hM u hk
   have j:M[p]?=some (.cells 1 [[v4]]):=u.get (by simp only [Q,d,go_sem]) fun h=>h.2 rfl
   have T:=zg j
   have A:M[L3.length]?=some (.cells 3 [[.str o.key,.str o.val,.bool true]]):=u.get (by simp only [ax,q,go_sem]) fun h=>by
    rcases X _ h.1 with h | h
    ·have:=Y.2.2 _ h;omega
    ·simp only [lla,llc,lln] at h;omega
   have ae:=zg A
   have q1:(p=L3.length)=False:=fO
   have q2:(L3.length=p)=False:=fO
   have ig:[[IV.int .u8 1]].length=1:=rfl
   obtain ⟨F5,ah,ai,D⟩:=z5U (rs:=[[.int .u8 1]]) v hM rfl u j hk (fun r w=>by simp at w;exact ⟨_,w⟩) (by simp) rfl
   simp only [I,h9,R,S,j,T,A,ae,q1,bg,hw,go_sem]
   refine ⟨l.length - (i+1),od,i+1,od,rfl,rfl,F5,?_,G4.trans ai K4.1 D.1,K4.trans D fun t B h=>?_⟩
   ·have e5:zL l.length++(l.take (i+1)).flatMap OpV.bytes=zL l.length++(l.take i).flatMap OpV.bytes++zH o.key++[[IV.int .u8 1]]:=by
     rw [ht,List.flatMap_append]
     simp [OpV.bytes,hgo]
    rw [e5]
    exact ah
   ·rcases G4 t h with h | h
    ·exact h
    ·omega
  | false=>
   rw [hgo] at q
   simp only [I,q,d,go_sem]
   refine Jy (rs:=[[.int .u8 0]]) (by simp only [d,Q,go_sem]) (v.keep (G:=none') kP fun _ _ h=>h) (fun r w=>by simp at w;exact ⟨_,w⟩) (by simp) (ZM (by simp only [go_sem]) rfl) (by simp only [lla,llc,lln] at *;omega) rfl ?_
   intro M k hM u hk
   have j:M[p]?=some (.cells 1 [[v4]]):=u.get (by simp only [Q,d,go_sem]) fun h=>h.2 rfl
   have T:=zg j
   have A:M[L3.length]?=some (.cells 3 [[.str o.key,.str o.val,.bool false]]):=u.get (by simp only [ax,q,go_sem]) fun h=>by
    rcases X _ h.1 with h | h
    ·have:=Y.2.2 _ h;omega
    ·simp only [lla,llc,lln] at h;omega
   have ae:=zg A
   have q1:(p=L3.length)=False:=fO
   have q2:(L3.length=p)=False:=fO
   obtain ⟨F5,ah,ai,D⟩:=z5U (rs:=[[.int .u8 0]]) v hM rfl u j hk (fun r w=>by simp at w;exact ⟨_,w⟩) (by simp) rfl
   simp only [I,j,T,A,ae,q1,go_sem]
   refine zh (z1B (E:=E.noPan) hP ah dm (by simp only [lla,llc,lln] at *;omega)) ?_
   rintro r L6 ⟨rfl,⟨F6,gm,eu⟩,bi⟩
   simp only [I,h9,R,S,hw,go_sem]
   have G5:=G4.trans ai K4.1 D.1
   have K5:Keep (fun t=>t=p) L1 _:=K4.trans D fun t B h=>by
    rcases G4 t h with h | h
    ·exact h
    ·omega
   refine ⟨l.length - (i+1),od,i+1,od,rfl,rfl,F6,?_,G5.trans eu K5.1 bi.1,K5.trans bi fun t B h=>?_⟩
   ·have e5:zL l.length++(l.take (i+1)).flatMap OpV.bytes=zL l.length++(l.take i).flatMap OpV.bytes++zH o.key++[[IV.int .u8 0]]++zH o.val:=by
     rw [ht,List.flatMap_append]
     simp [OpV.bytes,hgo]
    rw [e5]
    exact gm
   ·rcases G5 t h with h | h
    ·exact h
    ·omega
 ·have e1:((i:Int)<(l.length:Int))=False:=fO
  simp only [R,S,e1,go_sem]
  have di:i=l.length:=by omega
  subst di
  rw [List.take_length] at O
  exact ⟨⟨F3,O,U⟩,J⟩
theorem z9N (d:E.P=Tryz.prog) {s:Nat} {l:List OpV} (hs:L[s]?=some (.cells 3 (zB l))) (m:l.length<=100000) (p:∀o∈l,o.ok):XT E 120 [.sl s 0 l.length l.length] L fun r L'=>∃v,r=.tup [v,.int .i64 0]/\zcz L L' v (yI l)/\Keep none' L L':=by
 have A:=zg hs
 refine xt1 (fn:=Tryz.f120) (rs:=[.tmp 2,.tmp 3]) (c:=zl4) d fun ρ q=>?_
 unfold zl4
 simp only [q,go_sem]
 refine zh (Yp (E:=E.noPan) d (z7E d (b:=L.length) (s:=s) (by simp only [go_sem]<;>rfl) (by simp only [hs,A,go_sem]) m p) (by simp [yI,zL])) ?_
 rintro r L' ⟨v,rfl,⟨g,rfl,hg,w,j⟩,u⟩
 simp only [go_sem]
 exact ⟨_,rfl,⟨g,rfl,by simp at hg;omega,w,j⟩,Keep.trans (Keep.app Keep.refl) u fun _ _ h=>h⟩
def zk1 : XC :=(sO [oI 4 0,oV 5 (.bool false)] (sO [oM 10 0,oY 11 10,oM 6 11] (sO [oM 12 6,oI 7 0,oM 8 12] (.seq (.block 0 (.loop (.seq (sO [oM 13 7,oM 14 8,oB 15 .lss 13 14] (cT 15 .skip (.exit 0))) (.block 1 (sO [oM 16 7,oM 17 8,oB 18 .add 16 17,oO 19 (.cvInt .u64 (.t 18)),oO 20 (.bin .shr (.t 19) (.c (.int .u64 1))),oO 21 (.cvInt .i64 (.t 20)),oM 9 21] (sO [oM 22 0,oM 23 9,oO 24 (.idxS 1 (.t 22) (.t 23)),oL 25 24,oM 26 1,oC 27 209 [.t 25,.t 26]] (cT 27 (.ops [oM 28 9,oK 29 .add 28 1,oM 7 29]) (.ops [oM 30 9,oM 8 30])))))))) (sO [oM 31 7,oM 32 7,oM 33 6,oB 34 .lss 32 33,oM 35 34,oG 36 35 true (.mov (.t 0)),oG 37 35 true (.mov (.t 7)),oG 38 35 true (.idxS 1 (.t 36) (.t 37)),oG 39 35 true (.load1 (.t 38)),oG 40 35 true (.mov (.t 1)),oG 41 35 true (.bin .eql (.t 39) (.t 40)),oG 42 35 true (.mov (.t 41)),oG 43 42 false (.mov (.t 0)),oG 44 42 false (.mov (.t 7)),oG 45 42 false (.idxS 1 (.t 43) (.t 44)),oG 46 42 false (.load1 (.t 45)),oG 47 42 false (.call (.f 210) [.t 46]),oG 48 42 false (.mov (.t 47)),oG 49 48 true (.mov (.t 1)),oG 50 48 true (.call (.f 210) [.t 49]),oG 51 42 false (.pick (.t 48) (.t 50) (.c (.bool false))),oG 52 35 true (.pick (.t 42) (.c (.bool true)) (.t 51)),oO 53 (.pick (.t 35) (.t 52) (.c (.bool false))),oM 4 31,oM 5 53] .ret)))))
def zlw : XC :=(sO [oV 4 (.bool false)] (sO [oM 5 0,oC 6 272 [.t 5],oM 7 6,oG 8 7 true (.mov (.t 1)),oG 9 7 true (.call (.f 272) [.t 8]),oG 10 7 true (.un .not (.t 9)),oO 11 (.pick (.t 7) (.t 10) (.c (.bool false))),oM 12 11,oG 13 12 false (.mov (.t 0)),oG 14 12 false (.mov (.t 1)),oG 15 12 false (.bin .lss (.t 13) (.t 14)),oO 16 (.pick (.t 12) (.c (.bool true)) (.t 15)),oM 4 16] .ret))
def zm5 : XC :=(sO [oV 2 (.bool false)] (sO [oM 3 0,oM 4 0,oB 5 .neq 3 4,oM 2 5] .ret))
def zmv : XC :=(sO [oV 2 (.bool false)] (sO [oM 3 0,oM 4 0,oB 5 .neq 3 4,oM 2 5] .ret))
def zkY : XC :=(sO [oV 4 (.bool false)] (sO [oM 5 0,oM 6 1,oC 7 223 [.t 5,.t 6],oK 8 .geq 7 0,oM 4 8] .ret))
def zmq : XC :=(sO [oI 4 0] (.seq (sO [oM 6 0,oY 7 6,oI 8 0] (.block 0 (.loop (sO [oB 9 .lss 8 7] (.seq (cT 9 .skip (.exit 0)) (.seq (.block 1 (sO [oM 10 8,oM 5 10] (sO [oM 11 1,oM 12 0,oM 13 5,oO 14 (.idxS 3 (.t 12) (.t 13)),oO 15 (.loadN 3 (.t 14)),oO 16 (.call (.t 11) [.t 15])] (cT 16 (sO [oM 17 5,oM 4 17] .ret) .skip)))) (.ops [oK 18 .add 8 1,oM 8 18]))))))) (sO [oO 4 (.mov (.c (.int .i64 (-1))))] .ret)))
def zm1 : XC :=(sO [oO 1 (.box (.t 0)),oV 2 (.bool false)] (sO [oO 3 (.loadN 3 (.t 1)),oC 4 163 [.t 3],oO 5 (.un .not (.t 4)),oM 2 5] .ret))
def zkm : XC :=(sO [oO 1 (.box (.t 0)),oV 2 (.bool false)] (sO [oF 3 0 1,oL 4 3,oO 5 (.bin .neq (.t 4) (.c (.str []))),oM 6 5,oG 7 6 true (.fldA 0 (.t 1)),oG 8 6 true (.load1 (.t 7)),oG 9 6 true (.lenS (.t 8)),oG 10 6 true (.bin .leq (.t 9) (oi 200)),oO 11 (.pick (.t 6) (.t 10) (.c (.bool false))),oM 12 11,oG 13 12 true (.fldA 1 (.t 1)),oG 14 12 true (.load1 (.t 13)),oG 15 12 true (.lenS (.t 14)),oG 16 12 true (.bin .leq (.t 15) (oi 65536)),oO 17 (.pick (.t 12) (.t 16) (.c (.bool false))),oM 18 17,oG 19 18 true (.fldA 2 (.t 1)),oG 20 18 true (.load1 (.t 19)),oG 21 18 true (.mov (.t 20)),oG 22 21 true (.fldA 1 (.t 1)),oG 23 21 true (.load1 (.t 22)),oG 24 21 true (.bin .neq (.t 23) (.c (.str []))),oG 25 18 true (.pick (.t 21) (.t 24) (.c (.bool false))),oG 26 18 true (.un .not (.t 25)),oO 27 (.pick (.t 18) (.t 26) (.c (.bool false))),oM 2 27] .ret))
def zkx : XC :=(sO [oV 2 (.bool false)] (sO [oM 6 0,oC 7 120 [.t 6],oM 5 7,oX 8 0 5,oX 9 1 5,oM 3 8,oM 4 9] (sO [oM 10 4,oK 11 .neq 10 0,oM 12 11,oG 13 12 false (.mov (.t 3)),oG 14 12 false (.len (.t 13)),oG 15 12 false (.bin .gtr (.t 14) (oi 1048512)),oO 16 (.pick (.t 12) (.c (.bool true)) (.t 15)),oM 2 16] .ret)))
def zlP : XC :=(sO [oV 4 .nsl] (sO [oM 5 0,oO 6 (.bslice 1 [(.int .u8 0)] 1 [(0,(.t 5))]),oM 7 1,oO 8 (.ex (.appT 5 1) [.t 6,.t 7]),oM 4 8] .ret))
def zjB : XC :=(sO [oV 4 .nsl] (sO [oM 8 1,oC 9 84 [.t 8],oM 7 9,oX 10 0 7,oX 11 1 7,oM 5 10,oM 6 11] (sO [oM 12 0,oM 13 5,oC 14 166 [.t 12,.t 13],oM 4 14] .ret)))
def zjQ : XC :=(sO [oV 2 .nsl] (.seq (sO [oM 3 0,oO 4 (.isNil 0 false (.t 3))] (cT 4 (sO [oV 2 .nsl] .ret) .skip)) (sO [oO 5 (.bslice 3 [(.str []),(.str []),(.bool false)] 0 []),oM 6 0,oO 7 (.append 3 40 (.t 5) (.t 6)),oM 2 7] .ret)))
def yA (ks:List (List UInt8)):List (List IV):=ks.map fun k=>[.str k]
theorem YI (ks:List (List UInt8)):(yA ks).length=ks.length:=by simp [yA]
theorem zb4 (ks:List (List UInt8)):Rows 1 (yA ks)=True:=eq_true fun r b=>by
 obtain ⟨k,_,rfl⟩:=List.mem_map.1 b
 rfl
theorem zau (b:E.P=Tryz.prog) (s:List UInt8):zD E 272 [.str s] (.bool false):=by
 refine xu1 (fn:=Tryz.f272) (c:=zmv) (t:=2) b fun ρ d=>?_
 unfold zmv
 simp only [d,go_sem]
 simp [conv,fuel]
theorem z9j (b:E.P=Tryz.prog) (s:List UInt8):zD E 210 [.str s] (.bool false):=by
 refine xu1 (fn:=Tryz.f210) (c:=zm5) (t:=2) b fun ρ d=>?_
 unfold zm5
 simp only [d,go_sem]
 simp [conv,fuel]
theorem z9T (d:E.P=Tryz.prog) (a b:List UInt8):zD E 209 [.str a,.str b] (.bool (Op.bytesLess a b)):=by
 refine xu2 (fn:=Tryz.f209) (c:=zlw) (t:=4) d fun ρ h h1=>?_
 unfold zlw
 simp only [h,go_sem]
 refine zi (args':=[.str a]) rfl (zau (E:=E.noPan) d a) rfl ?_
 simp only [h,h1,go_sem]
 rfl
theorem z3O (M:E.P=Tryz.prog) {ks:List (List UInt8)} {t:List UInt8} {i:Nat} (hi:i<=ks.length) (h1:∀(j:Nat) (k:List UInt8),j<i->ks[j]?=some k->Op.bytesLess k t=true) (h2:∀(j:Nat) (k:List UInt8),i<=j->ks[j]?=some k->Op.bytesLess k t=false) (hN:ks.length<=1099511627776) :
  zD E 151 [.isl (yA ks),.str t] (.tup [.int .i64 i,.bool (decide (ks[i]?=some t))]):=by
 have d:=YI ks
 have Z:lenOf (.isl (yA ks))=some ks.length:=by show some _=_;rw [d]
 have r:=zb4 ks
 refine xw2 (fn:=Tryz.f151) (c:=zk1) (t:=4) (t':=5) M fun ρ h h1=>?_
 unfold zk1
 simp only [h,zt Z,go_sem]
 refine zC (fun m ρ L'=>∃lo hi:Nat,lo<=i/\i<=hi/\hi<=ks.length/\m=hi - lo/\L'=[]/\ρ 0=.isl (yA ks)/\ρ 1=.str t/\ρ 6=.int .i64 ks.length/\ρ 7=.int .i64 lo/\ρ 8=.int .i64 hi)
  ⟨0,ks.length,Nat.zero_le _,hi,Nat.le_refl _,rfl,rfl,by simp only [h,go_sem],by simp only [h1,go_sem],by simp only [go_sem],by simp only [go_sem]<;>rfl,by simp only [go_sem]<;>rfl⟩ ?_
 clear h h1 ρ
 rintro m ρ L' ⟨lo,hh,V,Y,Q,rfl,rfl,h,b,A,w,s⟩
 by_cases hc:lo<hh
 ·have e1:((lo:Int)<(hh:Int))=True:=tO
  obtain ⟨q,hq⟩:∃q,(lo+hh) / 2=q:=⟨_,rfl⟩
  have T:IntKind.i64.wrap ((lo:Int)+(hh:Int))=((lo+hh:Nat):Int):=wR
  have X:IntKind.u64.wrap ((lo+hh:Nat):Int)=((lo+hh:Nat):Int):=by simp [IntKind.wrap,IntKind.signed,IntKind.bits];omega
  have R:zav .u64 ((lo+hh:Nat):Int) 1=(q:Int):=by
   have v:IntKind.u64.bits=64:=rfl
   unfold zav
   rw [v]
   show ((lo+hh:Nat):Int).fdiv 2=_
   rw [Int.fdiv_eq_ediv_of_nonneg _ (by decide)]
   omega
  have S:IntKind.i64.wrap (q:Int)=(q:Int):=by rw [wrap64 od od]
  have U:IntKind.i64.wrap ((q:Int)+1)=((q+1:Nat):Int):=wR
  have v:((0:Int)<=(q:Int))=True:=tO
  have I:q<ks.length:=by omega
  obtain ⟨k,p⟩:∃k,ks[q]?=some k:=⟨_,List.getElem?_eq_getElem I⟩
  have hg:(yA ks)[q]?=some [.str k]:=by simp [yA,p]
  have l:(yA ks).getD q []=[.str k]:=by rw [List.getD_eq_getElem?_getD,hg];rfl
  have u:((q:Int)<((yA ks).length:Int))=True:=eq_true (by rw [d];omega)
  have B:(q<(yA ks).length)=True:=eq_true (by rw [d];omega)
  simp only [h,b,w,s,e1,T,X,R,S,v,r,u,B,l,Int.toNat_natCast,go_sem]
  refine zi (args':=[.str k,.str t]) rfl (z9T (E:=E.noPan) M k t) rfl ?_
  by_cases hqi:q<i
  ·have G:=h1 q k hqi p
   simp only [h,b,A,w,s,G,U,go_sem]
   exact ⟨hh - (q+1),od,q+1,hh,od,Y,Q,rfl,⟨rfl,rfl⟩⟩
  ·have G:=h2 q k od p
   simp only [h,b,A,w,s,G,go_sem]
   exact ⟨q - lo,od,lo,q,V,od,od,rfl,⟨rfl,rfl⟩⟩
 ·have e1:((lo:Int)<(hh:Int))=False:=fO
  have J:lo=i:=by omega
  subst J
  by_cases hln:lo<ks.length
  ·have u:((lo:Int)<(ks.length:Int))=True:=tO
   have v:((0:Int)<=(lo:Int))=True:=tO
   obtain ⟨k,p⟩:∃k,ks[lo]?=some k:=⟨_,List.getElem?_eq_getElem hln⟩
   have hg:(yA ks)[lo]?=some [.str k]:=by simp [yA,p]
   have l:(yA ks).getD lo []=[.str k]:=by rw [List.getD_eq_getElem?_getD,hg];rfl
   have B:(lo<(yA ks).length)=True:=eq_true (by rw [d];omega)
   have O:((lo:Int)<((yA ks).length:Int))=True:=eq_true (by rw [d];omega)
   by_cases hkt:k=t
   ·subst hkt
    simp only [h,b,A,w,s,e1,u,v,r,B,O,l,Int.toNat_natCast,p,go_sem]
    exact ⟨rfl,rfl⟩
   ·have D:(k=t)=False:=eq_false hkt
    simp only [h,b,A,w,s,e1,u,v,r,B,O,l,Int.toNat_natCast,D,go_sem]
    refine zi (args':=[.str k]) rfl (z9j (E:=E.noPan) M k) rfl ?_
    simp only [go_sem]
    have hd:decide (ks[lo]?=some t)=false:=by rw [p];simp [hkt]
    rw [hd]
    exact ⟨rfl,rfl⟩
  ·have u:((lo:Int)<(ks.length:Int))=False:=fO
   simp only [A,w,s,e1,u,go_sem]
   have hd:decide (ks[lo]?=some t)=false:=by rw [List.getElem?_eq_none od];rfl
   rw [hd]
   exact ⟨rfl,rfl⟩
def OpV.fit (o:OpV):Prop:=o.key≠[]/\o.key.length<=200/\o.val.length<=65536/\(o.gone=true->o.val=[])
theorem OpV.fit.ok {o:OpV} (h:o.fit):o.ok:=⟨by have:=h.2.1;omega,by have:=h.2.2.1;omega,h.2.2.2⟩
theorem z7k (j:E.P=Tryz.prog) {o:OpV} (h:o.fit):zD E 163 [.agg [.str o.key,.str o.val,.bool o.gone]] (.bool true):=by
 obtain ⟨h1,h2,q,p⟩:=h
 have b:(o.key=[])=False:=eq_false h1
 have l:((o.key.length:Int)<=200)=True:=tO
 have d:((o.val.length:Int)<=65536)=True:=tO
 refine xu1 (fn:=Tryz.f163) (c:=zkm) (t:=2) j fun ρ m=>?_
 unfold zkm
 simp only [m,b,l,d,go_sem]
 cases hg:o.gone with
 | true=>
  have f4:=p hg
  simp only [f4,go_sem]
  rfl
 | false=>
  simp only [go_sem]
  rfl
theorem zbC (b:E.P=Tryz.prog) {o:OpV} (h:o.fit):zD E 162 [.agg [.str o.key,.str o.val,.bool o.gone]] (.bool false):=by
 refine xu1 (fn:=Tryz.f162) (c:=zm1) (t:=2) b fun ρ d=>?_
 unfold zm1
 simp only [d,go_sem]
 refine zi (args':=[.agg [.str o.key,.str o.val,.bool o.gone]]) rfl (z7k (E:=E.noPan) b h) rfl ?_
 simp only [go_sem]
 rfl
theorem z9l (v:E.P=Tryz.prog) {s:Nat} {l:List OpV} (hs:L[s]?=some (.cells 3 (zB l))) (G:l.length<=100000) (A:∀o∈l,o.fit):XT E 223 [.sl s 0 l.length l.length,.fn (.func 162) [] []] L fun r L'=>r=.int .i64 (-1)/\L'=L:=by
 have I:=zg hs
 refine xt2 (fn:=Tryz.f223) (rs:=[.tmp 4]) (c:=zmq) v fun ρ b h1=>?_
 unfold zmq
 simp only [b,go_sem]
 refine zC (fun n ρ L'=>∃i:Nat,i<=l.length/\n=l.length - i/\L'=L/\ρ 0=.sl s 0 l.length l.length/\ρ 1=.fn (.func 162) [] []/\ρ 7=.int .i64 l.length/\ρ 8=.int .i64 i)
  ⟨0,Nat.zero_le _,rfl,rfl,by simp only [b,go_sem],by simp only [h1,go_sem],by simp only [go_sem],by simp only [go_sem]<;>rfl⟩ ?_
 clear b h1 ρ
 rintro n ρ L' ⟨i,hi,rfl,rfl,b,h1,p,h⟩
 by_cases hc:i<l.length
 ·have e1:((i:Int)<(l.length:Int))=True:=tO
  have B:((0:Int)<=(i:Int))=True:=tO
  obtain ⟨o,j⟩:∃o,o=l[i]:=⟨_,rfl⟩
  have d:l[i]?=some o:=by rw [j];exact List.getElem?_eq_getElem hc
  have m:o∈l:=List.mem_of_getElem? d
  have w:(zB l).length=l.length:=by simp [zB]
  have hg:(zB l)[i]?=some o.row:=by simp [zB,d]
  have u:(zB l).getD i []=[.str o.key,.str o.val,.bool o.gone]:=by rw [List.getD_eq_getElem?_getD,hg];rfl
  have q:i<(zB l).length:=by omega
  have D:IntKind.i64.wrap ((i:Int)+1)=((i+1:Nat):Int):=wR
  simp only [b,h1,p,h,e1,B,hs,u,q,Int.toNat_natCast,go_sem]
  refine zi (args':=[.agg [.str o.key,.str o.val,.bool o.gone]]) rfl (zbC (E:=E.noPan) v (A o m)) rfl ?_
  simp only [b,h1,p,h,D,go_sem]
  exact ⟨l.length - (i+1),od,i+1,od,rfl,rfl⟩
 ·have e1:((i:Int)<(l.length:Int))=False:=fO
  simp only [p,h,e1,go_sem]
theorem z5D (b:E.P=Tryz.prog) {s:Nat} {l:List OpV} (hs:L[s]?=some (.cells 3 (zB l))) (d:l.length<=100000) (h:∀o∈l,o.fit):XT E 161 [.sl s 0 l.length l.length,.fn (.func 162) [] []] L fun r L'=>r=.bool false/\L'=L:=by
 refine xt2 (fn:=Tryz.f161) (rs:=[.tmp 4]) (c:=zkY) b fun ρ j h1=>?_
 unfold zkY
 simp only [j,h1,go_sem]
 refine zh (z9l (E:=E.noPan) b hs d h) ?_
 rintro r L' ⟨rfl,rfl⟩
 simp only [go_sem]
theorem wC {L':List Blk} {v:IV} {bs:List (List IV)} {n:Nat} (h:zcz L L' v bs):conv L' (n+2) (Zv L.length) v=some (.isl bs):=by
 obtain ⟨g,rfl,hg,b,d⟩:=h
 have h1:Zv L.length g=some none:=by simp [Zv];omega
 rcases b with b | b<;>simp [conv,h1,b,YU d]
theorem zd9 (d:E.P=Tryz.prog) {s:Nat} {l:List OpV} (hs:L[s]?=some (.cells 3 (zB l))) (b:l.length<=100000) (h:∀o∈l,o.ok):XT E 120 [.sl s 0 l.length l.length] L fun r L'=>r=.tup [.isl (yI l),.int .i64 0]/\L'=L:=by
 refine zU (z9N d hs b h) ?_
 rintro r L' ⟨v,rfl,j,m⟩
 exact ⟨m,_,by simp only [fuel,conv,zJ,wC j];rfl,rfl⟩
theorem z5t (b:E.P=Tryz.prog) {n:Nat} (d:n<=4503599627370496):zD E 84 [.int .i64 n] (.tup [.isl (zL n),.int .i64 0]):=by
 refine zU (z9Q b d) ?_
 rintro r L' ⟨v,rfl,h,j⟩
 exact ⟨j,_,by simp only [fuel,conv,zJ,wC h];rfl,rfl⟩
theorem zdM (b:E.P=Tryz.prog) {s:Nat} {l:List OpV} (hs:L[s]?=some (.cells 3 (zB l))) (d:l.length<=100000) (h:∀o∈l,o.ok) (m:(yI l).length<=1048512):XT E 164 [.sl s 0 l.length l.length] L fun r L'=>r=.bool false/\L'=L:=by
 have e1:((1048512:Int)<((yI l).length:Int))=False:=fO
 refine xt1 (fn:=Tryz.f164) (rs:=[.tmp 2]) (c:=zkx) b fun ρ j=>?_
 unfold zkx
 simp only [j,go_sem]
 refine zh (zd9 (E:=E.noPan) b hs d h) ?_
 rintro r L' ⟨rfl,rfl⟩
 have lo:lenOf (.isl (yI l))=some (yI l).length:=rfl
 simp only [zt lo,e1,go_sem]
theorem Jm (q:E.P=Tryz.prog) {k:Int} {bs:List (List IV)} (j:zA bs) (h:bs≠[]) (s:bs.length<=1099511627776):zD E 166 [.int .u8 k,.isl bs] (.isl ([.int .u8 k]::bs)):=by
 refine xu2 (fn:=Tryz.f166) (c:=zlP) (t:=4) q fun ρ m h1=>?_
 unfold zlP
 simp only [m,h1,go_sem]
 refine Wy (rows:=[[.int .u8 k]]) (rs:=bs) rfl (.inl rfl) rfl rfl j.rowsC h (by simp;omega) ?_
 intro u d
 have b:zA ([.int .u8 k]::bs):=by
  intro r b
  rcases List.mem_cons.1 b with rfl | b
  ·exact ⟨_,rfl⟩
  ·exact j r b
 have p:0+(1+bs.length)<=([.int .u8 k]::bs).length:=by simp;omega
 simp only [go_sem]
 have l:([IV.int .u8 k]::bs).take (1+bs.length)=[IV.int .u8 k]::bs:=List.take_of_length_le (by simp;omega)
 rcases d with rfl | rfl<;>simp [fuel,conv,zF,Nat.add_comm 1 bs.length,YU b]
theorem z5w (b:E.P=Tryz.prog) {k:Int} {n:Nat} (h:n<=4503599627370496):zD E 216 [.int .u8 k,.int .i64 n] (.isl ([.int .u8 k]::zL n)):=by
 refine xu2 (fn:=Tryz.f216) (c:=zjB) (t:=4) b fun ρ d h1=>?_
 unfold zjB
 simp only [h1,go_sem]
 refine zi (args':=[.int .i64 n]) rfl (z5t (E:=E.noPan) b h) rfl ?_
 simp only [d,go_sem]
 have:=zM n
 have:=Zj (n:=n) (k:=7) od
 refine zi (args':=[.int .u8 k,.isl (zL n)]) rfl (Jm (E:=E.noPan) b (zO n) (z4J n) od) rfl ?_
 simp only [go_sem]
 rfl
theorem z7j {L:List Blk} {n:Nat} {m:Ren} (l:List OpV):zJ (zJ (conv L (n+1) m)) (zB l)=some (zB l):=by
 refine wz fun r b=>?_
 obtain ⟨o,_,rfl⟩:=List.mem_map.1 b
 rfl
theorem z2O (w:E.P=Tryz.prog) {s:Nat} {l:List OpV} (hs:L[s]?=some (.cells 3 (zB l))) (A:l.length<=100000) (j:l≠[]):XT E 167 [.sl s 0 l.length l.length] L fun r L'=>r=.sl (L.length+1) 0 l.length l.length/\L'=L++[.dead]++[.cells 3 (zB l)]:=by
 have v:=zg hs
 have b:(zB l).length=l.length:=by simp [zB]
 have p:=List.length_pos_iff.2 j
 refine xt1 (fn:=Tryz.f167) (rs:=[.tmp 2]) (c:=zjQ) w fun ρ u=>?_
 unfold zjQ
 simp only [u,go_sem]
 refine ⟨?_,fun h=>by omega⟩
 have d:yz 3 (zB l):=fun r q=>by
  obtain ⟨o,_,rfl⟩:=List.mem_map.1 q
  exact ⟨rfl,rfl⟩
 refine yh (rows:=[]) (rs:=zB l) (by simp only [go_sem]) rfl (Zd (sz:=3) (by simp only [hs,v,go_sem]) b) d (by intro h;have m:=congrArg List.length h;rw [b] at m;simp only [lln] at m;omega) (by rw [b];omega) ?_
 simp only [b,Nat.zero_add,go_sem]
 simp
theorem z5c (j:E.P=Tryz.prog) {s:Nat} {l:List OpV} (hs:L[s]?=some (.cells 3 (zB l))) (h:l.length<=100000) (b:l≠[]):XT E 167 [.sl s 0 l.length l.length] L fun r L'=>r=.isl (zB l)/\L'=L:=by
 have d:(zB l).length=l.length:=by simp [zB]
 refine zU (z2O j hs h b) ?_
 rintro r L' ⟨rfl,rfl⟩
 have h1:Zv L.length (L.length+1)=some none:=by simp [Zv]
 have h2:(L++[Blk.dead]++[Blk.cells 3 (zB l)])[L.length+1]?=some (.cells 3 (zB l)):=by simp
 refine ⟨kP,_,?_,rfl⟩
 have m:(zB l).take l.length=zB l:=List.take_of_length_le od
 simp [fuel,conv,h1,d,m,z7j]
def zl8 : XC :=(sO [oV 6 .nsl] (sO [oM 8 0,oM 9 1,oM 10 2,oM 11 0,oY 12 11,oO 13 (.ex (.sl3 1) [.t 8,.t 9,.t 10,.t 12])] (.seq (sO [oM 14 1,oM 15 2,oB 16 .eql 14 15] (cT 16 (sO [oM 17 0,oM 6 17] .ret) .skip)) (sO [oM 18 0,oY 19 18,oM 7 19] (.seq (.drawR [(oM 20 0,([],false)),(oM 21 1,([],false)),(oO 22 (.slice 1 (.t 20) none (some (.t 21))),([],false)),(oM 23 0,([],false)),(oM 24 2,([],false)),(oO 25 (.slice 1 (.t 23) (some (.t 24)) none),([],false)),(oO 26 (.append 1 16 (.t 22) (.t 25)),([],false)),(oM 0 26,([],false))]) (sO [oM 27 0,oM 28 0,oY 29 28,oM 30 7,oO 31 (.slice 1 (.t 27) (some (.t 29)) (some (.t 30))),oU (.ex (.clr [(.str [])]) [.t 31])] (sO [oM 32 0,oM 6 32] .ret)))))))
theorem zgc {sz b t off len cap:Nat} {x:IV} {rs rows:List (List IV)} {KV:IV->List Blk->Prop} (d:L[t]?=some (.cells sz rows)) (j:rowsOf L x=some rs) (hc:yz sz rs) (h1:off+cap<=rows.length) (h2:len+rs.length<=cap)
  (h:KV (.sl t off (len+rs.length) cap) (L.set t (.cells sz (splice rows (off+len) rs)))):xop E (.append sz b (.c (.sl t off len cap)) (.c x)) cev L KV:=by
 simp only [xop,Z9]
 unfold ZQ
 simp only [j,d]
 exact ⟨hc,trivial,h1,by rw [if_pos h2];exact h⟩
@[go_sem] theorem zlF {g s:Nat} {st:Bool} {k:IV}:xex E (.mdel st) [.mp s,k] g L K=zcD st (.mp s) k L K:=nr rfl
@[go_sem] theorem zm4 {st:Bool} {s:Nat} {k:IV}:zcD st (.mp s) k L K=(isKey st k=true/\z0A L[s]? fun b c=>Wi (yR k b 0) (fun i=>K (.tup []) (L.set s (.map (b.eraseIdx i) c))) (K (.tup []) (L.set s (.map b c)))):=z4C
theorem z8c (V:E.P=Tryz.prog) {ks:List (List UInt8)} {i b:Nat} (j:L[b]?=some (.cells 1 (yA ks))) (hi:i<ks.length) (Z:ks.length<=1000000) :
  XT E 152 [.sl b 0 ks.length ks.length,.int .i64 i,.int .i64 ((i+1:Nat):Int)] L fun r L'=>r=.sl b 0 (ks.length - 1) (ks.length - 1)/\L'=L.set b (.cells 1 (yA (ks.take i++ks.drop (i+1)))):=by
 have h:=YI ks
 refine zfu (R:=fun r L'=>r=.sl b 0 (ks.length - 1) ks.length/\L'=L.set b (.cells 1 (yA (ks.take i++ks.drop (i+1))++[[.str []]]))) ?_ ?_
 rotate_left
 ·rintro r L' ⟨rfl,rfl⟩
  have I:(yA (ks.take i++ks.drop (i+1))).length=ks.length - 1:=by rw [YI];simp;omega
  refine ⟨b,ks.length - 1,ks.length,1,_,rfl,List.getElem?_set_self (zf j),by simp [I],rfl,?_⟩
  rw [List.set_set]
  congr 2
  rw [<-I,List.take_left]
 have lk:=zg j
 have U:lenOf (.sl b 0 ks.length ks.length)=some ks.length:=rfl
 have e1:((0:Int)<=(i:Int))=True:=tO
 have Q:((i:Int)<=((i+1:Nat):Int))=True:=tO
 have Y:(((i+1:Nat):Int)<=(ks.length:Int))=True:=tO
 have S:((i:Int)=((i+1:Nat):Int))=False:=fO
 refine xt3 (fn:=Tryz.f152) (rs:=[.tmp 6]) (c:=zl8) V fun ρ w h1 h2=>?_
 unfold zl8
 simp only [w,h1,h2,j,Yk,zt U,e1,Q,Y,S,Nat.le_refl,go_sem]
 refine ⟨od,od,od,?_⟩
 have J:(yA (ks.drop (i+1))).length=ks.length - (i+1):=by rw [YI];simp
 have s:rowsOf L (.sl b (i+1) (ks.length - (i+1)) (ks.length - (i+1)))=some (yA (ks.drop (i+1))):=by
  simp only [rowsOf,j,h]
  rw [if_pos od]
  congr 1
  unfold yA
  rw [<-List.map_drop,List.take_of_length_le (by simp)]
 have u:yz 1 (yA (ks.drop (i+1))):=fun r s=>by
  obtain ⟨k,_,rfl⟩:=List.mem_map.1 s
  exact ⟨rfl,rfl⟩
 refine zgc j s u od od ?_
 have G:i+(yA (ks.drop (i+1))).length=ks.length - 1:=by omega
 rw [G]
 have B:splice (yA ks) (0+i) (yA (ks.drop (i+1)))=yA (ks.take i++ks.drop (i+1))++(yA ks).drop (ks.length - 1):=by
  unfold splice
  rw [Nat.zero_add,G]
  unfold yA
  rw [List.map_append,List.map_take]
 rw [B]
 have d:(yA (ks.take i++ks.drop (i+1))).length=ks.length - 1:=by rw [YI];simp;omega
 have v:=zf j
 have m:(L.set b (.cells 1 (yA (ks.take i++ks.drop (i+1))++(yA ks).drop (ks.length - 1))))[b]?=some (.cells 1 (yA (ks.take i++ks.drop (i+1))++(yA ks).drop (ks.length - 1))):=List.getElem?_set_self v
 obtain ⟨L1,l⟩:∃L1,L.set b (.cells 1 (yA (ks.take i++ks.drop (i+1))++(yA ks).drop (ks.length - 1)))=L1:=⟨_,rfl⟩
 rw [l] at m ⊢
 have O:=zg m
 have A:lenOf (.sl b 0 (ks.length - 1) ks.length)=some (ks.length - 1):=rfl
 have X:((0:Int)<=((ks.length - 1:Nat):Int))=True:=tO
 simp only [w,m,Yk,zt A,X,Nat.le_refl,go_sem]
 refine ⟨od,?_⟩
 have M:ks.length - (ks.length - 1)=1:=by omega
 rw [M]
 refine z2X (z:=[.str []]) m rfl od (by rw [lla,d,List.length_drop,h];omega) ?_
 simp only [w,go_sem]
 rw [<-l]
 refine (List.set_set ..).trans ?_
 refine congrArg (fun r=>L.set b (Blk.cells 1 r)) ?_
 have p:splice (yA (ks.take i++ks.drop (i+1))++(yA ks).drop (ks.length - 1)) (ks.length - 1) (List.replicate 1 [.str []])=yA (ks.take i++ks.drop (i+1))++[[.str []]]:=by
  have T:((yA ks).drop (ks.length - 1)).length=1:=by rw [List.length_drop,h];omega
  have D:List.drop (ks.length - 1+[[IV.str []]].length) (yA (ks.take i++ks.drop (i+1))++(yA ks).drop (ks.length - 1))=[]:=List.drop_eq_nil_of_le (by rw [lla,d,T];simp)
  show (_++[[IV.str []]])++_=_
  rw [List.take_left' d]
  exact (congrArg (fun q=>yA (ks.take i++ks.drop (i+1))++[[IV.str []]]++q) D).trans (List.append_nil _)
 exact p
end
end Go.X.TryzW
end
