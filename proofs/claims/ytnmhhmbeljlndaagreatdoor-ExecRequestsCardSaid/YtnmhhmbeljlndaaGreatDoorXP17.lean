/- Parts of the proof: Xhdf, Xhrg, Xhcm3, Xhcon3. -/
import Derived.Test.YtnmhhmbeljlndaaGreatDoorXP16
set_option linter.unusedVariables false
set_option linter.unusedSimpArgs false
set_option linter.unusedSectionVars false
section
open Go Go.X Go.Proofs
set_option maxRecDepth 100000
set_option maxHeartbeats 4000000
namespace Go.X.TryzW
section
variable {E:Env} {ρ:Rho} {L:List Blk} {K:IV->List Blk->Prop}
def zme : XC :=(.ops [oM 4 0,oM 5 0,oN 6 5,oF 7 1 6,oL 8 7,oM 9 1,oO 10 (.build [(.str []),(.str []),(.bool false)] [(0,(1,(.t 9))),(2,(1,(.c (.bool true))))]),oO 11 (.bslice 3 [(.str []),(.str []),(.bool false)] 1 [(0,(.t 10))]),oO 12 (.append 3 40 (.t 8) (.t 11)),oN 13 4,oF 14 1 13,oS 14 12])
def zkO : XC :=(sO [oO 3 (.box (.t 0)),oV 4 (.bool false)] (.seq (sO [oF 5 1 3,oL 6 5,oL 7 1,oB 8 .eql 6 7] (cT 8 (.ops [oL 9 2,oF 10 0 3,oL 11 10,oC 12 119 [.t 9,.t 11]]) .skip)) (sO [oF 13 1 3,oL 14 13,oL 15 1,oB 16 .eql 14 15,oM 4 16] .ret)))
theorem z6d (X:E.P=Tryz.prog) {b x:Nat} {l:List OpV} {sz:Int} {F:Nat->Prop} {k:List UInt8} (h1:ZF L b x l sz F) (hN:l.length<=100000) :
  XT E 119 [.ptr b 0 0,.str k] L fun r L'=>r=.tup []/\(∃F',ZF L' b x (l++[⟨k,[],true⟩]) sz F'/\Grown F F' L L')/\Keep F L L':=by
 obtain ⟨v,m,p,s,T,rfl⟩:=h1
 have R:=zg p
 refine xt2 (fn:=Tryz.f119) (rs:=[]) (c:=zme) X fun ρ h0 h1=>?_
 unfold zme
 simp only [h0,h1,p,go_sem]
 have O:∀q:List OpV,(zB q).length=q.length:=fun q=>by simp [zB]
 have A:yz 3 [[IV.str k,IV.str [],IV.bool true]]:=fun r Q=>by simp at Q;subst Q;exact ⟨rfl,rfl⟩
 have w:rowsOf (L++[Blk.cells 3 [[IV.str k,IV.str [],IV.bool true]]]) (.sl L.length 0 1 1)=some [[IV.str k,IV.str [],IV.bool true]]:=Zd (sz:=3) (by simp) rfl
 have B:¬b=m:=fun h=>by subst h;rw [p] at s;simp at s
 have ae:=zf p
 have D:=zf s
 rcases T with ⟨rfl,rfl⟩ | ⟨g,rfl,hg,V⟩
 ·refine Yo w A (by simp) (by simp) ?_
  simp only [p,R,go_sem]
  obtain ⟨j,d⟩:∃j,(L++[Blk.cells 3 [[IV.str k,IV.str [],IV.bool true]]]).length=j:=⟨_,rfl⟩
  have M:j=L.length+1:=by rw [<-d];simp
  rw [d]
  refine ⟨⟨_,⟨.sl j 0 1 1,m,?_,?_,.inr ⟨j,rfl,?_,by simp⟩,rfl⟩,?_⟩,?_⟩
  ·rw [List.getElem?_set_self (by simp;omega)]
  ·rw [List.getElem?_set_ne B,List.append_assoc,List.getElem?_append_left D];exact s
  ·rw [List.getElem?_set_ne od,<-d,List.getElem?_append_right (Nat.le_refl _),Nat.sub_self];rfl
  ·rintro u (rfl | rfl | ⟨n,J⟩)
   ·exact .inl (.inl rfl)
   ·exact .inl (.inr (.inl rfl))
   ·cases J;right;simp;omega
  ·exact Keep.set (Keep.app (Keep.app Keep.refl)) fun _=>.inl rfl
 ·have lg:=zg hg
  have Y:=zf hg
  have Z:=zo p hg (by simp)
  have S:(g=b)=False:=eq_false fun h=>of_eq_false Z h.symm
  have I:¬g=m:=fun h=>by subst h;rw [hg] at s;simp at s
  refine yh (Zz hg) (O l) w A (by simp) (by simp;omega) ?_
  simp only [p,R,S,go_sem]
  obtain ⟨j,d⟩:∃j,(L++[Blk.cells 3 [[IV.str k,IV.str [],IV.bool true]]]).length=j:=⟨_,rfl⟩
  have M:j=L.length+1:=by rw [<-d];simp
  rw [d]
  have G:(l++[(⟨k,[],true⟩:OpV)]).length=l.length+1:=by simp
  refine ⟨⟨_,⟨.sl j 0 (l.length+1) (l.length+1),m,?_,?_,.inr ⟨j,by rw [G],?_,by simp⟩,rfl⟩,?_⟩,?_⟩
  ·rw [List.getElem?_set_self (by simp;omega)]
  ·rw [List.getElem?_set_ne B,List.getElem?_append_left (by simp;omega),List.getElem?_set_ne I,List.getElem?_append_left D];exact s
  ·rw [List.getElem?_set_ne od,List.getElem?_append_right (by simp;omega)]
   have U:j - ((L++[Blk.cells 3 [[IV.str k,IV.str [],IV.bool true]]]).set g Blk.dead).length=0:=by rw [lls,d];omega
   rw [U]
   simp [zB,OpV.row]
  ·rintro u (rfl | rfl | ⟨n,J⟩)
   ·exact .inl (.inl rfl)
   ·exact .inl (.inr (.inl rfl))
   ·cases J;right;simp;omega
  ·exact Keep.set (Keep.app (Keep.set (Keep.app Keep.refl) fun _=>.inr (.inr ⟨_,rfl⟩))) fun _=>.inl rfl
def jd (L0 L:List Blk) (b x:Nat) (l:List OpV) (sz:Int) (N:Nat->Prop):Prop:=∃F,ZF L b x l sz F/\(∀u,F u->L0.length<=u/\¬N u)/\Keep none' L0 L/\∀t,N t->t<L.length
theorem jd.st {L0:List Blk} {b x:Nat} {l:List OpV} {sz:Int} {N:Nat->Prop} (h:jd L0 L b x l sz N):Yg L0 L b x l sz:=by
 obtain ⟨F,h1,h2,j,_⟩:=h
 exact ⟨F,h1,fun u d=>(h2 u d).1,j⟩
theorem Yg.toN {L0:List Blk} {b x:Nat} {l:List OpV} {sz:Int} (h:Yg L0 L b x l sz):jd L0 L b x l sz none':=by
 obtain ⟨F,h1,h2,j⟩:=h
 exact ⟨F,h1,fun u d=>⟨h2 u d,fun h=>h⟩,j,fun t h=>h.elim⟩
theorem jd.weak {L0:List Blk} {b x:Nat} {l:List OpV} {sz:Int} {N N':Nat->Prop} (h:jd L0 L b x l sz N) (j:∀t,N' t->N t):jd L0 L b x l sz N':=by
 obtain ⟨F,h1,h2,p,m⟩:=h
 exact ⟨F,h1,fun u d=>⟨(h2 u d).1,fun h=>(h2 u d).2 (j u h)⟩,p,fun t h=>m t (j t h)⟩
theorem jd.new {L0 L':List Blk} {b x:Nat} {l:List OpV} {sz:Int} {N N':Nat->Prop} (h:jd L0 L b x l sz N) (j:Keep none' L L') (m:∀t,N' t->N t\/L.length<=t/\t<L'.length):jd L0 L' b x l sz N':=by
 obtain ⟨F,h1,h2,q,s⟩:=h
 have r:=h1.lt.2.2
 refine ⟨F,h1.keep j fun _ _ h=>h,fun u d=>⟨(h2 u d).1,fun h=>?_⟩,q.trans j fun _ _ h=>h,fun t p=>?_⟩
 ·rcases m u h with h | h
  ·exact (h2 u d).2 h
  ·have:=r u d;omega
 ·rcases m t p with h | h
  ·have:=s t h;have:=j.1;omega
  ·exact h.2
theorem jd.set {L0:List Blk} {b x t:Nat} {l:List OpV} {sz:Int} {N:Nat->Prop} {k:Blk} (h:jd L0 L b x l sz N) (d:N t) (r:L0.length<=t):jd L0 (L.set t k) b x l sz N:=by
 obtain ⟨F,h1,h2,m,p⟩:=h
 refine ⟨F,h1.keep (G:=fun u=>u=t) (Keep.set Keep.refl fun _=>rfl) fun u j q=>(h2 u j).2 (q▸d),h2,Keep.set m fun h=>by omega,fun t d=>by rw [lls];exact p t d⟩
def JQ (rq:List UInt8) (q:RqV):List OpV:=if q.req=rq then [⟨q.key,[],true⟩] else []
theorem z9p (X:E.P=Tryz.prog) {L0:List Blk} {b x t4 Q:Nat} {l:List OpV} {sz:Int} {rq:List UInt8} {q:RqV} {N:Nat->Prop} (h:jd L0 L b x l sz N) (hN:l.length<=100000) (S:L[t4]?=some (.cells 1 [[.ptr b 0 0]])) (B:L[Q]?=some (.cells 1 [[.str rq]])) (n6:N Q) :
  XT E 118 [.agg [.str q.key,.str q.req,.str q.ans],.ptr Q 0 0,.ptr t4 0 0] L fun r L'=>r=.bool (decide (q.req=rq))/\jd L0 L' b x (l++JQ rq q) sz N/\Keep (fun t=>¬N t) L L':=by
 obtain ⟨F,T,D,V,Y⟩:=id h
 have l4:=zg S
 have U:=zg B
 have d:cellsOf (.agg [.str q.key,.str q.req,.str q.ans])=[.str q.key,.str q.req,.str q.ans]:=rfl
 refine xt3 (fn:=Tryz.f118) (rs:=[.tmp 4]) (c:=zkO) X fun ρ Z h1 h2=>?_
 unfold zkO
 have p:Keep none' L (L++[Blk.cells 3 [[.str q.key,.str q.req,.str q.ans]]]):=Keep.app Keep.refl
 obtain ⟨A,j⟩:∃A,L.length=A:=⟨_,rfl⟩
 have I:¬F A:=fun h=>by have:=T.lt.2.2 _ h;omega
 have M:(L++[Blk.cells 3 [[.str q.key,.str q.req,.str q.ans]]])[A]?=some (.cells 3 [[.str q.key,.str q.req,.str q.ans]]):=by rw [<-j];simp
 by_cases hq:q.req=rq
 ·have v:(q.req=rq)=True:=eq_true hq
  simp only [Z,h1,h2,d,v,S,l4,B,U,go_sem]
  refine zh (z6d (E:=E.noPan) X (T.keep p fun _ _ h=>h) hN) ?_
  rintro r L2 ⟨rfl,⟨F2,O,J⟩,G⟩
  have s:=G.get M I
  have m:=G.get (p.get B fun h=>h) fun h=>(D _ h).2 n6
  have af:=zg s
  have ae:=zg m
  rw [j]
  simp only [h1,v,s,m,go_sem]
  have R:Keep F L L2:=(p.mono (F':=F) fun _ _ h=>h.elim).trans G fun _ _ h=>h
  refine ⟨⟨F2,?_,fun u hu=>?_,V.trans R fun t w h=>by have:=(D t h).1;omega,fun t w=>by have:=Y t w;have:=R.1;omega⟩,R.mono fun t _ h=>(D t h).2⟩
  ·unfold JQ;rw [if_pos hq];exact O
  ·rcases J u hu with h | h
   ·exact D u h
   ·have h5:=h.1
    have h6:=V.1
    simp only [lla,llc,lln] at h5
    exact ⟨od,fun h=>by have:=Y u h;omega⟩
 ·have v:(q.req=rq)=False:=eq_false hq
  simp only [Z,h1,d,v,B,U,go_sem]
  refine ⟨?_,p.mono fun _ _ h=>h.elim⟩
  unfold JQ
  rw [if_neg hq,List.append_nil]
  exact h.new p fun t w=>.inl w
theorem zbk (Y:E.P=Tryz.prog) {L0:List Blk} {b x A w g:Nat} {ops:List OpV} {sz:Int} {rq:List UInt8} {l:List RqV} {N:Nat->Prop} (h:jd L0 L b x ops sz N) (hN:ops.length<=90000) (g4:L[A]?=some (.cells 1 [[.ptr b 0 0]])) (g6:L[w]?=some (.cells 1 [[.str rq]])) (n4:N A) (U:N w)
  (gg:L[g]?=some (.cells 3 (l.map RqV.row))) (ng:N g) (hl:l.length<=100000) :
  XT E 180 [.sl g 0 l.length l.length,(.fn (.func 118) [] [.ptr w 0 0,.ptr A 0 0])] L fun r L'=>Keep (fun t=>¬N t) L L'/\((r=.int .i64 (-1)/\(∀q∈l,¬q.req=rq)/\jd L0 L' b x ops sz N)\/
   ∃(a c:List RqV) (q:RqV),l=a++q::c/\(∀p∈a,¬p.req=rq)/\q.req=rq/\r=.int .i64 a.length/\jd L0 L' b x (ops++[⟨q.key,[],true⟩]) sz N):=by
 have ln:lenOf (.sl g 0 l.length l.length)=some l.length:=rfl
 have B:(l.map RqV.row).length=l.length:=by simp
 refine xt2 (fn:=Tryz.f180) (rs:=[.tmp 4]) (c:=zeR) Y fun ρ u h1=>?_
 unfold zeR
 simp only [u,zt ln,go_sem]
 refine zC (fun n ρ M=>∃i:Nat,i<=l.length/\n=l.length - i/\ρ 0=.sl g 0 l.length l.length/\ρ 1=(.fn (.func 118) [] [.ptr w 0 0,.ptr A 0 0])/\ρ 7=.int .i64 l.length/\ρ 8=.int .i64 i/\(∀q∈l.take i,¬q.req=rq)/\jd L0 M b x ops sz N/\Keep (fun t=>¬N t) L M)
  ⟨0,od,rfl,by simp only [u,go_sem],by simp only [h1,go_sem],by simp only [go_sem],by simp only [go_sem]<;>rfl,(fun q s=>nomatch s),h,Keep.refl⟩ ?_
 clear u h1 ρ
 rintro n ρ M ⟨i,hi,rfl,u,h1,Q,T,j,Z,v⟩
 have X:=v.get gg fun h=>h ng
 have G:=v.get g4 fun h=>h n4
 have I:=v.get g6 fun h=>h U
 have ae:=zg X
 by_cases hc:i<l.length
 ·have J:((i:Int)<(l.length:Int))=True:=tO
  have e0:((0:Int)<=(i:Int))=True:=tO
  obtain ⟨q,s⟩:∃q,l[i]?=some q:=⟨l[i],List.getElem?_eq_getElem hc⟩
  have n1:(i<(l.map RqV.row).length)=True:=tO
  have gd:(l.map RqV.row).getD i []=[.str q.key,.str q.req,.str q.ans]:=by rw [List.getD_eq_getElem?_getD];simp [s,RqV.row]
  have w1:IntKind.i64.wrap ((i:Int)+1)=((i+1:Nat):Int):=wR
  simp only [u,h1,Q,T,J,e0,gd,X,Yk,B,Nat.zero_add,Int.toNat_natCast,go_sem]
  refine ⟨hc,?_⟩
  refine zh (z9p (E:=E.noPan) Y Z od G I U) ?_
  rintro r M2 ⟨rfl,d,k2⟩
  have V:=v.trans k2 fun _ _ h=>h
  have O:l[i]=q:=by rw [List.getElem?_eq_getElem hc] at s;exact Option.some.inj s
  have ed:l.drop i=q::l.drop (i+1):=by rw [List.drop_eq_getElem_cons hc,O]
  by_cases hqr:q.req=rq
  ·have S:decide (q.req=rq)=true:=decide_eq_true hqr
   simp only [S,go_sem]
   have hg:JQ rq q=[⟨q.key,[],true⟩]:=by unfold JQ;rw [if_pos hqr]
   rw [hg] at d
   have R:(l.take i).length=i:=by rw [List.length_take];omega
   exact ⟨V,.inr ⟨l.take i,l.drop (i+1),q,by rw [<-ed,List.take_append_drop],j,hqr,by rw [R],d⟩⟩
  ·have S:decide (q.req=rq)=false:=decide_eq_false hqr
   simp only [u,h1,Q,T,S,w1,go_sem]
   have hg:JQ rq q=[]:=by unfold JQ;rw [if_neg hqr]
   rw [hg,List.append_nil] at d
   refine ⟨l.length - (i+1),od,i+1,od,rfl,rfl,fun p m=>?_,d,V⟩
   have ht:l.take (i+1)=l.take i++[q]:=by rw [List.take_add_one,s];rfl
   rw [ht] at m
   rcases List.mem_append.1 m with m | m
   ·exact j p m
   ·rw [List.mem_singleton] at m;subst m;exact hqr
 ·have J:((i:Int)<(l.length:Int))=False:=fO
  simp only [Q,T,J,go_sem]
  have D:i=l.length:=by omega
  subst D
  rw [List.take_length] at j
  exact ⟨v,.inl ⟨j,Z⟩⟩
def zil (L:List Blk) (g n:Nat) (l:List RqV):Prop:=∃rows,L[g]?=some (.cells 3 rows)/\rows.length=n/\l.length<=n/\rows.take l.length=l.map RqV.row/\Rows 3 rows
theorem take_snoc {l:List RqV} {j:Nat} {q:RqV} (h:l[j]?=some q):l.take (j+1)=l.take j++[q]:=by rw [List.take_add_one,h];rfl
theorem z88 (hP:E.P=Tryz.prog) {L0:List Blk} {b x v u g:Nat} {ops:List OpV} {sz:Int} {rq:List UInt8} {l:List RqV} (h:jd L0 L b x ops sz (fun t=>t=g\/t=v\/t=u)) (hN:ops.length<=1000) (g4:L[v]?=some (.cells 1 [[.ptr b 0 0]])) (g6:L[u]?=some (.cells 1 [[.str rq]]))
  (gg:L[g]?=some (.cells 3 (l.map RqV.row))) (ax:L0.length<=g) (d4:¬v=g) (d6:¬u=g) (hl:l.length<=1000) :
  XT E 117 [.sl g 0 l.length l.length,(.fn (.func 118) [] [.ptr u 0 0,.ptr v 0 0])] L fun r L'=>r=.sl g 0 (Z7 l rq).length l.length/\zil L' g l.length (Z7 l rq)/\jd L0 L' b x (ops++ZX ((Y8 l rq).map RqV.key)) sz (fun t=>t=g\/t=v\/t=u)/\Keep (fun t=>¬(t=v\/t=u)) L L':=by
 have ln:lenOf (.sl g 0 l.length l.length)=some l.length:=rfl
 have Q:(l.map RqV.row).length=l.length:=by simp
 have ak:Rows 3 (l.map RqV.row):=fun r s=>by obtain ⟨p,_,rfl⟩:=List.mem_map.1 s;rfl
 refine xt2 (fn:=Tryz.f117) (rs:=[.tmp 4]) (c:=zeW) hP fun ρ w h1=>?_
 unfold zeW
 simp only [w,h1,go_sem]
 refine zh (zbk (E:=E.noPan) hP h od g4 g6 (.inr (.inl rfl)) (.inr (.inr rfl)) gg (.inl rfl) od) ?_
 rintro r M ⟨kM,⟨rfl,ag,hB⟩ | ⟨a,c,q0,rfl,ha,ae,rfl,hB⟩⟩
 ·have A:Z7 l rq=l:=by unfold Z7;rw [List.filter_eq_self];intro q B;exact decide_eq_true (ag q B)
  have T:Y8 l rq=[]:=by unfold Y8;rw [List.filter_eq_nil_iff];intro q B;simp [ag q B]
  rw [A,T]
  simp only [w,go_sem]
  exact ⟨⟨_,kM.get gg fun h=>h (.inl rfl),Q,Nat.le_refl _,by rw [<-Q,List.take_length],ak⟩,by simpa [ZX] using hB,kM.mono fun t _ h h2=>h (.inr h2)⟩
 ·have bi:a.length<(a++q0::c).length:=by simp
  have w1:IntKind.i64.wrap ((a.length:Int)+1)=((a.length+1:Nat):Int):=wR
  have f0:((a.length:Int) = -1)=False:=fO
  simp only [f0,w1,go_sem]
  obtain ⟨l,Z⟩:∃l,a++q0::c=l:=⟨_,rfl⟩
  have ah:l.take (a.length+1)=a++[q0]:=by rw [<-Z,show a++q0::c=(a++[q0])++c by simp,List.take_left' (by simp)]
  have A:Z7 (l.take (a.length+1)) rq=a:=by
   rw [ah];unfold Z7;rw [List.filter_append,List.filter_eq_self.2 fun q B=>decide_eq_true (ha q B)];simp [ae]
  have T:Y8 (l.take (a.length+1)) rq=[q0]:=by
   rw [ah];unfold Y8;rw [List.filter_append,List.filter_eq_nil_iff.2 fun q B=>by rw [decide_eq_true_eq];exact ha q B];simp [ae]
  rw [Z] at bi Q ak ln gg hl w ⊢
  refine zC (fun n ρ M=>∃j:Nat,a.length<j/\j<=l.length/\n=l.length - j/\ρ 0=.sl g 0 l.length l.length/\ρ 1=(.fn (.func 118) [] [.ptr u 0 0,.ptr v 0 0])/\ρ 5=.int .i64 (Z7 (l.take j) rq).length/\ρ 6=.int .i64 j/\(Z7 (l.take j) rq).length<j/\
    M[g]?=some (.cells 3 ((Z7 (l.take j) rq).map RqV.row++(l.drop (Z7 (l.take j) rq).length).map RqV.row))/\jd L0 M b x (ops++ZX ((Y8 (l.take j) rq).map RqV.key)) sz (fun t=>t=g\/t=v\/t=u)/\Keep (fun t=>¬(t=v\/t=u)) L M)
   ⟨a.length+1,od,od,rfl,by simp only [w,go_sem],by simp only [h1,go_sem],by rw [A];simp only [go_sem],by simp only [go_sem],by rw [A];omega,by
    rw [A,<-List.map_append]
    have:a++l.drop a.length=l:=by rw [<-Z];simp
    rw [this];exact kM.get gg fun h=>h (.inl rfl),by rw [T];exact hB,kM.mono fun t _ h h2=>h (.inr h2)⟩ ?_
  clear w h1 ρ
  rintro n ρ M2 ⟨j,dn,hj,rfl,w,h1,h5,h6,au,J,U,D⟩
  obtain ⟨m,d⟩:∃m,(Z7 (l.take j) rq).length=m:=⟨_,rfl⟩
  rw [d] at h5 au J
  obtain ⟨R,O⟩:∃R,(Z7 (l.take j) rq).map RqV.row++(l.drop m).map RqV.row=R:=⟨_,rfl⟩
  rw [O] at J
  have di:R.length=l.length:=by rw [<-O];simp;omega
  have af:∀i,m<=i->R[i]?=(l.map RqV.row)[i]?:=fun i hi=>by
   rw [<-O,List.getElem?_append_right (by simp;omega),List.length_map,d,List.getElem?_map,List.getElem?_drop,List.getElem?_map]
   congr 2;omega
  have dm:Rows 3 R:=fun r s=>by
   rw [<-O] at s
   rcases List.mem_append.1 s with s | s
   ·obtain ⟨p,_,rfl⟩:=List.mem_map.1 s;rfl
   ·obtain ⟨p,_,rfl⟩:=List.mem_map.1 s;rfl
  have df:=zg J
  by_cases hc:j<l.length
  ·have f1:((j:Int)<(l.length:Int))=True:=tO
   have e0:((0:Int)<=(j:Int))=True:=tO
   obtain ⟨q,B⟩:∃q,l[j]?=some q:=⟨l[j],List.getElem?_eq_getElem hc⟩
   have n1:(j<R.length)=True:=tO
   have gd:R.getD j []=[.str q.key,.str q.req,.str q.ans]:=by rw [List.getD_eq_getElem?_getD,af j od];simp [B,RqV.row]
   have w1:IntKind.i64.wrap ((j:Int)+1)=((j+1:Nat):Int):=wR
   have ht:=take_snoc B
   simp only [w,h1,h6,f1,e0,n1,gd,J,Yk,zt ln,Nat.zero_add,Int.toNat_natCast,go_sem]
   obtain ⟨vb,S⟩:∃vb,M2.length=vb:=⟨_,rfl⟩
   have kV:Keep none' M2 (M2++[Blk.cells 3 [[.str q.key,.str q.req,.str q.ans]]]):=Keep.app Keep.refl
   have gV:(M2++[Blk.cells 3 [[.str q.key,.str q.req,.str q.ans]]])[vb]?=some (.cells 3 [[.str q.key,.str q.req,.str q.ans]]):=by rw [<-S];simp
   have dh:g<M2.length:=zf J
   rw [S]
   have bz:=U.new (N':=fun t=>(t=g\/t=v\/t=u)\/t=vb) kV fun t ht=>ht.imp id fun h=>by rw [h];exact ⟨od,by simp [S]⟩
   have hgl:(ZX ((Y8 (l.take j) rq).map RqV.key)).length<=1000:=by
    have h1:=(List.filter_sublist (l:=l.take j) (p:=fun q:RqV=>decide (q.req=rq))).length_le
    have h2:(l.take j).length<=l.length:=by simp;omega
    unfold ZX Y8
    simp only [List.length_map]
    omega
   refine zh (z9p (E:=E.noPan) hP bz (by rw [lla];omega) (kV.get (D.get g4 fun h=>h (.inl rfl)) fun h=>h) (kV.get (D.get g6 fun h=>h (.inr rfl)) fun h=>h) (.inl (.inr (.inr rfl)))) ?_
   rintro r M4 ⟨rfl,az,k4⟩
   have aj:=k4.get gV fun h=>h (.inr rfl)
   have X:=k4.get (kV.get J fun h=>h) fun h=>h (.inl (.inl rfl))
   have dw:=zg aj
   have bg:=zg X
   have ai:Keep (fun t=>¬(t=v\/t=u)) L M4:=(D.trans kV fun _ _ h=>h.elim).trans k4 fun t _ h h2=>h (.inl (.inr h2))
   have I:=az.weak (N':=fun t=>t=g\/t=v\/t=u) fun t h=>.inl h
   by_cases hqr:q.req=rq
   ·have f2:decide (q.req=rq)=true:=decide_eq_true hqr
    simp only [w,h1,h5,h6,f2,w1,go_sem]
    have Y:Z7 (l.take (j+1)) rq=Z7 (l.take j) rq:=by unfold Z7;rw [ht,List.filter_append];simp [hqr]
    have e5:Y8 (l.take (j+1)) rq=Y8 (l.take j) rq++[q]:=by unfold Y8;rw [ht,List.filter_append];simp [hqr]
    have e6:JQ rq q=ZX [q.key]:=by unfold JQ;rw [if_pos hqr];rfl
    refine ⟨l.length - (j+1),od,j+1,od,od,rfl,by rw [Y,d],rfl,by rw [Y,d];omega,by rw [Y,d,O];exact X,?_,ai⟩
    rw [e5,List.map_append]
    rw [e6,List.append_assoc] at I
    have e7:ZX ((Y8 (l.take j) rq).map RqV.key++[q].map RqV.key)=ZX ((Y8 (l.take j) rq).map RqV.key)++ZX [q.key]:=by unfold ZX;rw [List.map_append];rfl
    rw [e7];exact I
   ·have f2:decide (q.req=rq)=false:=decide_eq_false hqr
    have e2:((0:Int)<=(m:Int))=True:=tO
    have e3:((m:Int)<(l.length:Int))=True:=tO
    have n2:(m<R.length)=True:=tO
    obtain ⟨q2,V⟩:∃q2,l[m]?=some q2:=⟨l[m],List.getElem?_eq_getElem od⟩
    have bf:R.getD m []=[.str q2.key,.str q2.req,.str q2.ans]:=by rw [List.getD_eq_getElem?_getD,af m (Nat.le_refl _)];simp [V,RqV.row]
    have w2:IntKind.i64.wrap ((m:Int)+1)=((m+1:Nat):Int):=wR
    simp only [w,h1,h5,h6,f2,w1,w2,e2,e3,n2,bf,aj,X,bg,Yk,Nat.zero_add,Int.toNat_natCast,go_sem]
    have Y:Z7 (l.take (j+1)) rq=Z7 (l.take j) rq++[q]:=by unfold Z7;rw [ht,List.filter_append];simp [hqr]
    have e5:Y8 (l.take (j+1)) rq=Y8 (l.take j) rq:=by unfold Y8;rw [ht,List.filter_append];simp [hqr]
    have e6:JQ rq q=[]:=by unfold JQ;rw [if_neg hqr]
    rw [e6,List.append_nil] at I
    have ay:R.set m [IV.str q.key,.str q.req,.str q.ans]=(Z7 (l.take j) rq++[q]).map RqV.row++(l.drop (m+1)).map RqV.row:=by
     have hd:l.drop m=q2::l.drop (m+1):=by
      have h2:l[m]'(by omega)=q2:=by rw [List.getElem?_eq_getElem od] at V;exact Option.some.inj V
      rw [List.drop_eq_getElem_cons od,h2]
     rw [<-O,hd,List.set_append_right _ _ (by simp [d]),List.length_map,d,Nat.sub_self]
     simp [RqV.row]
    refine ⟨l.length - (j+1),od,j+1,od,od,rfl,by rw [Y,lla,d];rfl,rfl,by rw [Y,lla,d];simp;omega,?_,?_,Keep.set ai fun _ h=>by
     rcases h with h | h
     ·exact d4 h.symm
     ·exact d6 h.symm⟩
    ·rw [Y,lla,d,ay];rfl
    ·rw [e5];exact I.set (.inl rfl) ax
  ·have f1:((j:Int)<(l.length:Int))=False:=fO
   have bu:j=l.length:=by omega
   subst bu
   rw [List.take_length] at d U O
   have e2:((0:Int)<=(m:Int))=True:=tO
   have e3:(m<=l.length)=True:=tO
   simp only [w,h5,h6,f1,J,Yk,zt ln,e2,e3,Nat.le_refl,Nat.zero_add,Int.toNat_natCast,go_sem]
   have ed:m<l.length:=au
   refine z2X (z:=[.str [],.str [],.str []]) J rfl od od ?_
   have bn:splice R m (List.replicate (l.length - m) [IV.str [],.str [],.str []])=(Z7 l rq).map RqV.row++List.replicate (l.length - m) [.str [],.str [],.str []]:=by
    unfold splice
    rw [List.drop_eq_nil_of_le (by rw [List.length_replicate];omega),List.append_nil,<-O,List.take_left' (by simp [d])]
   have cu:splice R m (List.replicate (l.length - m) [IV.str [],.str [],.str []])=splice R m (List.replicate (l.length - m) [IV.str [],.str [],.str []]):=rfl
   show Wp E.noPan _ _ (M2.set g (.cells 3 (splice R m (List.replicate (l.length - m) [IV.str [],.str [],.str []])))) _
   rw [bn]
   obtain ⟨M5,G⟩:∃M5,M2.set g (.cells 3 ((Z7 l rq).map RqV.row++List.replicate (l.length - m) [.str [],.str [],.str []]))=M5:=⟨_,rfl⟩
   have g5:M5[g]?=some (.cells 3 ((Z7 l rq).map RqV.row++List.replicate (l.length - m) [.str [],.str [],.str []])):=by rw [<-G];exact List.getElem?_set_self (zf J)
   have l5:=zg g5
   rw [G]
   simp only [w,h5,g5,Yk,e2,e3,Nat.zero_add,Int.toNat_natCast,go_sem]
   rw [d]
   refine ⟨rfl,⟨_,g5,by simp [d];omega,od,by rw [d,List.take_left' (by simp [d])],fun r s=>?_⟩,?_,?_⟩
   ·rcases List.mem_append.1 s with s | s
    ·obtain ⟨p,_,rfl⟩:=List.mem_map.1 s;rfl
    ·rw [List.eq_of_mem_replicate s];rfl
   ·rw [<-G];exact U.set (.inl rfl) ax
   ·rw [<-G];exact Keep.set D fun _ h=>by
     rcases h with h | h
     ·exact d4 h.symm
     ·exact d6 h.symm
def ziE : XC :=(sO [oL 55 6,oM 56 3,oO 57 (.build [(.str []),(.str []),(.bool false)] [(0,(1,(.t 55))),(1,(1,(.t 56)))]),oO 58 (.bslice 3 [(.str []),(.str []),(.bool false)] 1 [(0,(.t 57))]),oC 59 120 [.t 58],oM 54 59,oX 60 0 54,oX 61 1 54,oM 12 60,oM 13 61] (.drawE [oL 62 4,oM 63 1,oM 64 9,oQ 65 121 [.t 63,.t 64],oM 66 12,oC 67 41 [.t 62,.t 65,.t 66]]))
def zjZ : XC :=(sO [oO 4 (.box (.t 0)),oO 6 (.box (.t 2))] (sO [oL 14 4,oN 15 14,oF 16 0 15,oL 17 16,oM 18 1,oC 19 58 [.t 17,.t 18],oM 8 19,oI 9 0] (.seq (sO [oM 20 8,oY 21 20,oK 22 .gtr 21 0] (cT 22 (.seq (.drawE [oM 24 8,oM 25 8,oY 26 25,oK 27 .sub 26 1,oO 28 (.idxS 3 (.t 24) (.t 27)),oF 29 0 28,oL 30 29,oM 31 1,oQ 32 116 [.t 31],oO 33 (.lenS (.t 32)),oO 34 (.sliceS (.t 30) (some (.t 33)) none),oQ 35 115 [.t 34,(oi 16),(oi 64)],oM 23 35,oX 36 0 23,oX 37 1 23,oM 10 36,oM 11 37]) (.ops [oM 38 10,oK 39 .add 38 1,oM 9 39])) .skip)) (sO [oM 40 8,oO 41 (.mkfn (.func 118) [] [.t 6,.t 4]),oC 42 117 [.t 40,.t 41],oM 8 42] (.seq (.block 0 (.loop (.seq (sO [oM 43 8,oY 44 43,oK 45 .geq 44 64] (cT 45 .skip (.exit 0))) (.block 1 (.seq (.drawE [oL 46 4,oM 47 8,oO 48 (.idxS 3 (.t 47) (oi 0)),oF 49 0 48,oL 50 49,oC 51 119 [.t 46,.t 50]]) (.ops [oM 52 8,oO 53 (.slice 3 (.t 52) (some (oi 1)) none),oM 8 53])))))) ziE)))))
theorem z8p (j:E.P=Tryz.prog) {f:IV}:XT E 180 [.nsl,f] L fun r L'=>r=.int .i64 (-1)/\L'=L:=by
 refine xt2 (fn:=Tryz.f180) (rs:=[.tmp 4]) (c:=zeR) j fun ρ b h1=>?_
 unfold zeR
 have d:lenOf .nsl=some 0:=rfl
 simp only [b,zt d,go_sem]
 refine zC (fun n ρ M=>n=0/\M=L/\ρ 7=.int .i64 0/\ρ 8=.int .i64 0) ⟨rfl,rfl,by simp only [go_sem]<;>rfl,by simp only [go_sem]⟩ ?_
 clear b h1 ρ
 rintro n ρ M ⟨rfl,rfl,l,h⟩
 simp only [l,h,go_sem]
theorem z5q (b:E.P=Tryz.prog) {f:IV}:XT E 117 [.nsl,f] L fun r L'=>r=.nsl/\L'=L:=by
 refine xt2 (fn:=Tryz.f117) (rs:=[.tmp 4]) (c:=zeW) b fun ρ d h1=>?_
 unfold zeW
 simp only [d,h1,go_sem]
 refine zh (z8p (E:=E.noPan) b) ?_
 rintro r L' ⟨rfl,rfl⟩
 simp only [d,go_sem]
theorem zdE (B:E.P=Tryz.prog) {L0:List Blk} {b x:Nat} {l:List OpV} {sz:Int} {k:List UInt8} {N:Nat->Prop} (h:jd L0 L b x l sz N) (D:l.length<=100000) :
  XT E 119 [.ptr b 0 0,.str k] L fun r L'=>r=.tup []/\jd L0 L' b x (l++[⟨k,[],true⟩]) sz N/\Keep (fun t=>¬N t) L L':=by
 obtain ⟨F,A,p,s,v⟩:=h
 refine (z6d B A D).mono ?_
 rintro r L' ⟨rfl,⟨F2,j,d⟩,m⟩
 refine ⟨rfl,⟨F2,j,fun u w=>?_,s.trans m fun t q h=>by have:=(p t h).1;omega,fun t q=>by have:=v t q;have:=m.1;omega⟩,m.mono fun t _ h=>(p t h).2⟩
 rcases d u w with h | h
 ·exact p u h
 ·have G:=h.1
  have I:=s.1
  exact ⟨od,fun h=>by have:=v u h;omega⟩
theorem z4L (I:E.P=Tryz.prog) {L0:List Blk} {b x B G m:Nat} {ops:List OpV} {sz:Int} {rq an:List UInt8} (A:E.gl 6=some dbT) (hB:jd L0 L b x ops sz (fun t=>t=B\/t=G)) (h1:ρ 1=.int .i64 0) (Y:ρ 3=.str an) (h4:ρ 4=.ptr B 0 0) (h6:ρ 6=.ptr G 0 0) (Z:ρ 9=.int .i64 m)
  (O:L[B]?=some (.cells 1 [[.ptr b 0 0]])) (R:L[G]?=some (.cells 1 [[.str rq]])) (U:rq.length<=5000) (ha:an.length<=5000) (hl:ops.length<=10000) (hm:m<1000000000) :
  Zg E.noPan ziE ρ L (z1E fun ρ L'=>Zq E.noPan [] ρ L' fun r=>r=.tup []/\Yg L0 L' b x (ops++[⟨rqK m,strOf (yI [⟨rq,an,false⟩]),false⟩]) sz):=by
 have v:=RqV.ok.plain (q:=⟨[],rq,an⟩) ⟨U,ha⟩
 have l4:=zg O
 have l6:=zg R
 unfold ziE
 simp only [Y,h6,R,go_sem]
 obtain ⟨ob,p⟩:∃ob,L.length=ob:=⟨_,rfl⟩
 have k3:Keep none' L (L++[Blk.cells 3 [[IV.str rq,IV.str an,IV.bool false]]]):=Keep.app Keep.refl
 have go:(L++[Blk.cells 3 [[IV.str rq,IV.str an,IV.bool false]]])[ob]?=some (.cells 3 (zB [⟨rq,an,false⟩])):=by rw [<-p];simp [zB,OpV.row]
 rw [p]
 generalize L++[Blk.cells 3 [[IV.str rq,IV.str an,IV.bool false]]]=L4 at *
 refine zh (z9N (E:=E.noPan) (l:=[⟨rq,an,false⟩]) I go (by simp) (fun o Q=>by simp only [List.mem_singleton] at Q;subst Q;exact ⟨by show rq.length<=_;omega,by show an.length<=_;omega,fun h=>by cases h⟩)) ?_
 rintro r L5 ⟨v5,rfl,⟨T,rfl,ae,j,S⟩,X⟩
 have u:Keep none' L L5:=k3.trans X fun _ _ h=>h
 have d:=u.get O fun h=>h
 have V:=zg d
 simp only [h1,h4,Z,d,go_sem]
 refine zY (args':=[.int .i64 0,.int .i64 m]) rfl (WP (E:=E.noPan) (i:=m) I A od) (fun _=>rfl) ?_
 simp only [go_sem]
 refine zh (VS (E:=E.noPan) (s:=strOf (yI [⟨rq,an,false⟩])) I (hB.st.keep u) (fun M J=>?_) od) ?_
 ·show (rowsOf M (.sl T 0 (yI [⟨rq,an,false⟩]).length (yI [⟨rq,an,false⟩]).length)).bind (zJ byteOf)=some (strOf (yI [⟨rq,an,false⟩]))
  rcases j with D | D
  ·rw [ZM (J.get D fun h=>h) rfl];exact v.str
  ·rw [wL (J.get D fun h=>h) rfl];exact v.str
 rintro r L6 ⟨rfl,w⟩
 simp only [go_sem]
 exact w
theorem z6Z (G:E.P=Tryz.prog) {L0:List Blk} {b x s N m:Nat} {F:Nat->Prop} {U:Int} {d:KV} {ops:List OpV} {l:List RqV} {sz:Int} {rq an:List UInt8} (Y:E.gl 6=some dbT) (hB:Yg L0 L b x ops sz) (hx:L0[x]?=some (exB s)) (h:zl L0 s F N U d) (hN:d.length<=900000) (ed:∀p∈d,p.1.length<=1000) (hd:d.list [114,47,48,48,48,47]=jC l)
  (ho:∀q∈l,q.ok) (gy:l.length<=64) (w:(l=[]/\m=0)\/∃(a:List RqV) (q:RqV) (n:Nat),l=a++[q]/\q.key=rqK n/\m=n+1) (hm:m<1000000) (hr:rq.length<=5000) (ha:an.length<=5000) (hl:ops.length<=1000) :
  XT E 48 [.ptr b 0 0,.int .i64 0,.str rq,.str an] L fun r L'=>r=.tup []/\Yg L0 L' b x (ops++ZX ((Y8 l rq).map RqV.key)++ZX (z2q (Z7 l rq))++[⟨rqK m,strOf (yI [⟨rq,an,false⟩]),false⟩]) sz:=by
 obtain ⟨FB,⟨v,mm,hb,dh⟩,bu,dn⟩:=id hB
 have ku:=zf hb
 have gp:L0.length<=b:=bu b (by obtain ⟨_,_,hF⟩:=dh;rw [hF];exact .inl rfl)
 refine xt4 (fn:=Tryz.f48) (rs:=[]) (c:=zjZ) G fun ρ h0 h1 h2 B=>?_
 unfold zjZ
 simp only [h0,h2,go_sem]
 obtain ⟨A,O⟩:∃t,L.length=t:=⟨_,rfl⟩
 obtain ⟨D,T⟩:∃t,(L++[Blk.cells 1 [[IV.ptr b 0 0]]]).length=t:=⟨_,rfl⟩
 have n6:D=A+1:=by rw [<-T,<-O];simp
 have k1:Keep none' L (L++[Blk.cells 1 [[IV.ptr b 0 0]]]++[Blk.cells 1 [[IV.str rq]]]):=Keep.app (Keep.app Keep.refl)
 have g4:(L++[Blk.cells 1 [[IV.ptr b 0 0]]]++[Blk.cells 1 [[IV.str rq]]])[A]?=some (.cells 1 [[.ptr b 0 0]]):=by rw [<-O];simp []
 have g6:(L++[Blk.cells 1 [[IV.ptr b 0 0]]]++[Blk.cells 1 [[IV.str rq]]])[D]?=some (.cells 1 [[.str rq]]):=by rw [<-T];simp
 have di:(L++[Blk.cells 1 [[IV.ptr b 0 0]]]++[Blk.cells 1 [[IV.str rq]]]).length=A+2:=by simp [O]
 have ai:jd L0 (L++[Blk.cells 1 [[IV.ptr b 0 0]]]++[Blk.cells 1 [[IV.str rq]]]) b x ops sz (fun t=>t=A\/t=D):=hB.toN.new k1 fun t ht=>.inr (by rcases ht with h | h<;>rw [h,di]<;>omega)
 rw [O,T]
 generalize L++[Blk.cells 1 [[IV.ptr b 0 0]]]++[Blk.cells 1 [[IV.str rq]]]=L1 at *
 have af:=k1.get hb fun h=>h
 have lh:=zg af
 have l4:=zg g4
 have l6:=zg g6
 simp only [h1,af,go_sem]
 have S:Keep none' L0 L1:=dn.trans k1 fun _ _ h=>h
 refine zh (jJ (E:=E.noPan) (l:=l) G (S.get hx fun h=>h) (h.keep S fun _ _ h=>h) hN ed hd ho od) ?_
 rintro r L2 ⟨hR,k2⟩
 have Z:=k2.get g4 fun h=>h
 have V:=k2.get g6 fun h=>h
 have au:=ai.new (N':=fun t=>t=A\/t=D) k2 fun t ht=>.inl ht
 have az:(l.map RqV.row).length=l.length:=by simp
 rcases hR with ⟨rfl,e⟩ | ⟨g,rfl,hg,hgl,dw⟩
 ·have u:l=[]:=by simpa using e
  have ln:lenOf .nsl=some 0:=rfl
  have df:m=0:=by
   rcases w with ⟨_,h⟩ | ⟨a,q,n,h,_⟩
   ·exact h
   ·rw [u] at h;simp at h
  subst df
  simp only [zt ln,go_sem]
  refine zh (z5q (E:=E.noPan) G) ?_
  rintro r L3 ⟨rfl,rfl⟩
  simp only [go_sem]
  refine zC (fun n ρ M=>n=0/\M=L3/\ρ 1=.int .i64 0/\ρ 3=.str an/\ρ 4=.ptr A 0 0/\ρ 6=.ptr D 0 0/\ρ 8=.nsl/\ρ 9=.int .i64 0) ⟨rfl,rfl,by simp only [h1,go_sem],by simp only [B,go_sem],by simp only [go_sem],by simp only [go_sem],by simp only [go_sem],by simp only [go_sem]⟩ ?_
  clear h0 h1 h2 B ρ
  rintro n ρ L3 ⟨rfl,rfl,h1,B,h4,h6,X,h9⟩
  simp only [X,zt ln,go_sem]
  have es:ZX ((Y8 l rq).map RqV.key)=[]:=by rw [u];rfl
  have eo:ZX (z2q (Z7 l rq))=[]:=by rw [u];rfl
  rw [es,eo,List.append_nil,List.append_nil]
  exact z4L (m:=0) G Y au (by simp only [h1,go_sem]) (by simp only [B,go_sem]) (by simp only [h4,go_sem]) (by simp only [h6,go_sem]) (by simp only [h9,go_sem]<;>rfl) Z V hr ha od od
 ·rw [az]
  have u:l≠[]:=fun h=>dw (by rw [h];rfl)
  obtain ⟨a,q,n0,ay,R,iw⟩:=w.resolve_left fun h=>u h.1
  have lm:l.length=a.length+1:=by rw [ay];simp
  have ln:lenOf (.sl g 0 l.length l.length)=some l.length:=rfl
  have f1:((0:Int)<(l.length:Int))=True:=tO
  have wn:IntKind.i64.wrap ((l.length:Int) - 1)=((a.length:Nat):Int):=wR
  have e0:((0:Int)<=(a.length:Int))=True:=tO
  have e1:((a.length:Int)<(l.length:Int))=True:=tO
  have n1:(a.length<(l.map RqV.row).length)=True:=tO
  have gd:(l.map RqV.row).getD a.length []=[.str q.key,.str q.req,.str q.ans]:=by rw [ay,List.getD_eq_getElem?_getD];simp [RqV.row]
  obtain ⟨w1,w2,w3⟩:=z02 (n:=n0) od
  have eu:q.key.length=20:=by rw [R,jX];simp [w3]
  have lg:=zg hg
  simp only [h1,zt ln,f1,wn,e0,e1,n1,gd,hg,Yk,Nat.zero_add,Int.toNat_natCast,go_sem]
  refine zY (args':=[.int .i64 0]) rfl (Ya (E:=E.noPan) G) (fun _=>rfl) ?_
  have f6:(((6:Nat):Int)<=(q.key.length:Int))=True:=tO
  have ah:q.key.drop 6=YN n0:=by rw [R];rfl
  have ik:List.drop 6 (List.take q.key.length q.key)=YN n0:=by rw [List.take_length];exact ah
  have bi:(6<=q.key.length)=True:=tO
  simp only [gd,bi,ah,llc,lln,Int.toNat_natCast,go_sem]
  refine zY (args':=[.str (YN n0),.int .i64 16,.int .i64 64]) rfl (z3n (E:=E.noPan) G (fun h=>by rw [h] at w3;simp at w3) w2 od) (fun _=>rfl) ?_
  rw [w1]
  have wm:IntKind.i64.wrap ((n0:Int)+1)=(m:Int):=by rw [YF od od];omega
  have iq:IntKind.i64.wrap (n0:Int)=(n0:Int):=YF od od
  simp only [wm,go_sem]
  have ae:jd L0 L2 b x ops sz (fun t=>t=g\/t=A\/t=D):=ai.new k2 fun t ht=>by
   rcases ht with h | h
   ·exact .inr ⟨by rw [h];exact hgl,by rw [h];exact zf hg⟩
   ·exact .inl h
  refine zh (z88 (E:=E.noPan) G ae hl Z V hg (by have:=S.1;omega) od od od) ?_
  rintro r L3 ⟨rfl,bz,Q,k3⟩
  have I:=k3.get Z fun h=>h (.inl rfl)
  have aj:=k3.get V fun h=>h (.inr rfl)
  have gm:(Z7 l rq).length<=64:=by have:=(Y3 (l:=l) (rq:=rq)).length_le;omega
  have gu:(ZX ((Y8 l rq).map RqV.key)).length<=64:=by
   have:=(List.filter_sublist (l:=l) (p:=fun q:RqV=>decide (q.req=rq))).length_le
   unfold ZX Y8;simp only [List.length_map];omega
  simp only [go_sem]
  obtain ⟨rows,gR,iy,bn,bf,kw⟩:=bz
  have kz:=zg gR
  have ak:=Q.weak (N':=fun t=>t=A\/t=D) fun t h=>.inr h
  refine zC (fun n ρ M=>ρ 1=.int .i64 0/\ρ 3=.str an/\ρ 4=.ptr A 0 0/\ρ 6=.ptr D 0 0/\ρ 9=.int .i64 m/\((n=1/\M=L3/\ρ 8=.sl g 0 (Z7 l rq).length l.length)\/
    (n=0/\64<=(Z7 l rq).length/\ρ 8=.sl g 1 ((Z7 l rq).length - 1) (l.length - 1)/\jd L0 M b x (ops++ZX ((Y8 l rq).map RqV.key)++ZX (z2q (Z7 l rq))) sz (fun t=>t=A\/t=D)/\Keep (fun t=>¬(t=A\/t=D)) L3 M)))
   ⟨by simp only [h1,go_sem],by simp only [B,go_sem],by simp only [go_sem],by simp only [go_sem],by simp only [go_sem],.inl ⟨rfl,rfl,by simp only [go_sem]⟩⟩ ?_
  clear h0 h1 h2 B ρ
  rintro n ρ M ⟨h1,B,h4,h6,h9,⟨rfl,rfl,X⟩ | ⟨rfl,j,X,cu,kM⟩⟩
  ·have J:lenOf (.sl g 0 (Z7 l rq).length l.length)=some (Z7 l rq).length:=rfl
   by_cases j:64<=(Z7 l rq).length
   ·have c1:((64:Int)<=((Z7 l rq).length:Int))=True:=tO
    have c2:((0:Int)<((Z7 l rq).length:Int))=True:=tO
    obtain ⟨k0,kr,ax⟩:∃k0 kr,Z7 l rq=k0::kr:=by
     cases hk:Z7 l rq with
     | nil=>rw [hk] at j;simp at j
     | cons a b=>exact ⟨a,b,rfl⟩
    have n2:(0<rows.length)=True:=tO
    have bg:rows.getD 0 []=[.str k0.key,.str k0.req,.str k0.ans]:=by
     have h1:(rows.take (Z7 l rq).length)[0]?=some (RqV.row k0):=by rw [bf,ax];rfl
     rw [List.getElem?_take,if_pos od] at h1
     rw [List.getD_eq_getElem?_getD,h1];rfl
    have gz:=zg I
    simp only [h4,X,zt J,c1,c2,n2,bg,gR,I,Yk,go_sem]
    refine zh (zdE (E:=E.noPan) G Q (by rw [lla];omega)) ?_
    rintro r M2 ⟨rfl,dm,k6⟩
    have ag:=k6.get gR fun h=>h (.inl rfl)
    have gq:=zg ag
    have n3:(1<=(Z7 l rq).length)=True:=tO
    simp only [h1,B,h4,h6,X,h9,ag,Yk,n3,Nat.zero_add,go_sem]
    have eo:ZX (z2q (Z7 l rq))=[⟨k0.key,[],true⟩]:=by unfold z2q;rw [if_pos j,ax];rfl
    exact ⟨bn,0,od,.inr ⟨rfl,j,by rw [eo];exact dm.weak fun t h=>.inr h,k6.mono fun t _ h h2=>h (.inr h2)⟩⟩
   ·have c1:((64:Int)<=((Z7 l rq).length:Int))=False:=fO
    simp only [X,zt J,c1,go_sem]
    have eo:ZX (z2q (Z7 l rq))=[]:=by unfold z2q;rw [if_neg j];rfl
    rw [eo,List.append_nil]
    exact z4L (m:=m) G Y ak (by simp only [h1,go_sem]) (by simp only [B,go_sem]) (by simp only [h4,go_sem]) (by simp only [h6,go_sem]) (by simp only [h9,go_sem]) I aj hr ha (by rw [lla];omega) od
  ·have J:lenOf (.sl g 1 ((Z7 l rq).length - 1) (l.length - 1))=some ((Z7 l rq).length - 1):=rfl
   have c1:((64:Int)<=(((Z7 l rq).length - 1:Nat):Int))=False:=fO
   simp only [X,zt J,c1,go_sem]
   have ig:(ZX (z2q (Z7 l rq))).length<=1:=by
    unfold z2q ZX
    split<;>simp<;>omega
   exact z4L (m:=m) G Y cu (by simp only [h1,go_sem]) (by simp only [B,go_sem]) (by simp only [h4,go_sem]) (by simp only [h6,go_sem]) (by simp only [h9,go_sem]) (kM.get I fun h=>h (.inl rfl)) (kM.get aj fun h=>h (.inr rfl)) hr ha (by rw [lla,lla];omega) od
theorem clone_nil (b:E.P=Tryz.prog):XT E 111 [.nsl] L fun r L'=>r=.nsl/\L'=L:=by
 refine xt1 (fn:=Tryz.f111) (rs:=[.tmp 2]) (c:=zgN) b fun ρ d=>?_
 unfold zgN
 simp only [d,go_sem]
theorem zal (j:E.P=Tryz.prog) {b c:Nat}:XT E 47 [.ptr b 0 0,.ptr c 0 0,.nsl] L fun r L'=>r=.tup [.nsl,.int .i64 0]/\L'=L:=by
 refine xt3 (fn:=Tryz.f47) (rs:=[.tmp 6,.tmp 7]) (c:=q47) j fun ρ p h1 h2=>?_
 unfold q47
 simp only [h2,go_sem]
 refine zh (clone_nil (E:=E.noPan) j) ?_
 rintro r L' ⟨rfl,rfl⟩
 have l:lenOf .nsl=some 0:=rfl
 simp only [zt l,go_sem]
 refine zC (fun n ρ M=>n=0/\M=L'/\ρ 8=.nsl/\ρ 18=.int .i64 0/\ρ 19=.int .i64 0) ⟨rfl,rfl,by simp only [go_sem],by simp only [go_sem]<;>rfl,by simp only [go_sem]⟩ ?_
 clear p h1 h2 ρ
 rintro n ρ M ⟨rfl,rfl,m,d,h⟩
 simp only [m,d,h,go_sem]
theorem z3W:st0.bytes.length<=200:=by
 have t1:=zZ [] (by decide)
 have t2:=zZ faa (by decide)
 have b:faa.length=3:=rfl
 have n0:(zL 0).length<=8:=by have:=zM 0;have:=Zj (n:=0) (k:=7) (by omega);omega
 simp only [StV.bytes,st0,lla,List.flatMap_cons,List.flatMap_nil,lln] at *
 omega
theorem z2y {ks:List (List UInt8)} {o:OpV} (h:o∈ZX ks):∃k∈ks,o=⟨k,[],true⟩:=by
 obtain ⟨k,b,rfl⟩:=List.mem_map.1 h
 exact ⟨k,b,rfl⟩
theorem zcw {l:List RqV} {rq an:List UInt8} {m:Nat} (w:Nums l m) (T:m<1000000) (A:l.length<=64) (M:rq.length<=256) (O:an.length<=4096):(z2r (strOf st0.bytes) l rq an m).length<=70/\∀q∈z2r (strOf st0.bytes) l rq an m,q.fit/\q.key.length+q.val.length<=5000:=by
 have S:=ZK m
 have r:=jv.plain
 have B:=z3W
 have s:Plain (yI [⟨rq,an,false⟩]):=RqV.ok.plain (q:=⟨[],rq,an⟩) ⟨by show rq.length<=_;omega,by show an.length<=_;omega⟩
 have G:(yI [⟨rq,an,false⟩]).length<=rq.length+an.length+40:=by
  rw [z3m _ rfl]
  have h1:=zZ rq od
  have h2:=zZ an od
  have R:=Z5 (n:=1) od
  simp only [lla,llc,lln]
  omega
 have Q:(Z7 l rq).length<=64:=Nat.le_trans (Y3 (l:=l) (rq:=rq)).length_le A
 have I:(Y8 l rq).length<=64:=Nat.le_trans (List.filter_sublist (l:=l) (p:=fun q:RqV=>decide (q.req=rq))).length_le A
 have D:(z2q (Z7 l rq)).length<=1:=by unfold z2q;split<;>simp<;>omega
 have j:∀n,(rqK n).length<=200/\rqK n≠[]:=fun n=>by
  have:=ZK n
  rw [jX]
  exact ⟨by simp;omega,by simp⟩
 have hg:∀k,(∃n,k=rqK n)->(⟨k,[],true⟩:OpV).fit/\k.length+([]:List UInt8).length<=5000:=fun k ⟨n,d⟩=>by
  subst d
  obtain ⟨h1,h2⟩:=j n
  exact ⟨⟨h2,h1,by simp,fun _=>rfl⟩,by simp;omega⟩
 refine ⟨by unfold z2r ZX;simp;omega,fun q b=>?_⟩
 unfold z2r at b
 rcases List.mem_append.1 b with b | b
 ·rcases List.mem_append.1 b with b | b
  ·rcases List.mem_append.1 b with b | b
   ·simp only [List.mem_cons,List.not_mem_nil,or_false] at b
    rcases b with rfl | rfl
    ·exact ⟨⟨by decide,by decide,by decide,fun h=>by cases h⟩,by decide⟩
    ·refine ⟨⟨by decide,(show sK.length<=200 by decide),?_,fun h=>by cases h⟩,?_⟩
     ·show (strOf st0.bytes).length<=_
      rw [r.len];omega
     ·show sK.length+(strOf st0.bytes).length<=_
      rw [r.len,show sK.length=5 from rfl];omega
   ·obtain ⟨k,d,rfl⟩:=z2y b
    obtain ⟨p,u,rfl⟩:=List.mem_map.1 d
    obtain ⟨n,_,v⟩:=w.key (List.mem_filter.1 u).1
    exact hg _ ⟨n,v⟩
  ·obtain ⟨k,d,rfl⟩:=z2y b
   unfold z2q at d
   split at d
   ·obtain ⟨p,u,rfl⟩:=List.mem_map.1 d
    obtain ⟨n,_,v⟩:=w.key (Y3.subset (List.mem_of_mem_take u))
    exact hg _ ⟨n,v⟩
   ·cases d
 ·rw [List.mem_singleton] at b;subst b
  obtain ⟨h1,h2⟩:=j m
  have J:(rqK m).length<=100:=by rw [jX];simp;omega
  refine ⟨⟨h2,h1,?_,fun h=>by cases h⟩,?_⟩
  ·show (strOf (yI [⟨rq,an,false⟩])).length<=_
   rw [s.len];omega
  ·show (rqK m).length+(strOf (yI [⟨rq,an,false⟩])).length<=_
   rw [s.len];omega
theorem zbw (A:E.P=Tryz.prog) {x s c t n re im N m:Nat} {F:Nat->Prop} {d:KV} {kn:Option StV} {l:List RqV} {rq an:List UInt8} (dm:E.gl 6=some dbT) (hx:L[x]?=some (exB s)) (hc:L[c]?=some (Wu t s n re im true)) (hS:zl L s F N n d) (gm:¬F c)
  (hN:d.length<=800000) (ku:N+1000000<=1099511627776) (gp:∀p∈d,p.1.length<=1000) (hf:YH d kn) (ed:(kn.getD Vl).ev=0) (hd:d.list [114,47,48,48,48,47]=jC l) (ho:∀q∈l,q.ok) (X:l.length<=64) (U:(l=[]/\m=0)\/∃(a:List RqV) (q:RqV) (n:Nat),l=a++[q]/\q.key=rqK n/\m=n+1) (bn:Nums l m) (hm:m<1000000)
  (bu:rq≠[]) (Z:rq.length<=256) (df:an.length<=4096) (bz:gok d (z2r (strOf st0.bytes) l rq an m)) :
  XT E 10 [.ptr x 0 0,.ptr c 0 0,.agg (z2s 0 .nsl st0 .nsl rq an 0 0)] L fun r L'=>r=.tup [.nsl,.int .i64 0]/\(∃F',zl L' s F' (N+1000000) n (d.puts (z2r (strOf st0.bytes) l rq an m))/\Grown F F' L L')/\Keep F L L':=by
 refine xt3 (fn:=Tryz.f10) (rs:=[.tmp 6,.tmp 7]) (c:=q10) A fun ρ D h1 h2=>?_
 unfold q10
 have di:cellsOf (.agg [.str faa,.int .i64 0,.nsl,.str [],.str faa,.str [],.str [],.int .i64 0,.str [],.nsl,.nsl,.int .i64 0,.nsl,.str rq,.str an,.int .i64 0,.int .i64 0])=[.str faa,.int .i64 0,.nsl,.str [],.str faa,.str [],.str [],.int .i64 0,.str [],.nsl,.nsl,.int .i64 0,.nsl,.str rq,.str an,.int .i64 0,.int .i64 0]:=rfl
 have au:ρ 2=.agg [.str faa,.int .i64 0,.nsl,.str [],.str faa,.str [],.str [],.int .i64 0,.str [],.nsl,.nsl,.int .i64 0,.nsl,.str rq,.str an,.int .i64 0,.int .i64 0]:=h2
 clear h2
 simp only [D,h1,au,di,go_sem]
 obtain ⟨u,hu⟩:∃u,L.length=u:=⟨_,rfl⟩
 have kA:Keep none' L (L++[Blk.cells 17 [[.str faa,.int .i64 0,.nsl,.str [],.str faa,.str [],.str [],.int .i64 0,.str [],.nsl,.nsl,.int .i64 0,.nsl,.str rq,.str an,.int .i64 0,.int .i64 0]]]):=Keep.app Keep.refl
 have I:(L++[Blk.cells 17 [[.str faa,.int .i64 0,.nsl,.str [],.str faa,.str [],.str [],.int .i64 0,.str [],.nsl,.nsl,.int .i64 0,.nsl,.str rq,.str an,.int .i64 0,.int .i64 0]]])[u]?=some (.cells 17 [[.str faa,.int .i64 0,.nsl,.str [],.str faa,.str [],.str [],.int .i64 0,.str [],.nsl,.nsl,.int .i64 0,.nsl,.str rq,.str an,.int .i64 0,.int .i64 0]]):=by rw [<-hu];simp
 rw [hu]
 generalize iq:L++[Blk.cells 17 [[.str faa,.int .i64 0,.nsl,.str [],.str faa,.str [],.str [],.int .i64 0,.str [],.nsl,.nsl,.int .i64 0,.nsl,.str rq,.str an,.int .i64 0,.int .i64 0]]]=LA at *
 have B:=kA.get hx fun h=>h
 have dh:=kA.get hc fun h=>h
 have R:zl LA s F N n d:=hS.keep kA fun _ _ h=>h
 have ig:=zg B
 have lA:=zg I
 refine zh (z9e (E:=E.noPan) A B dh) ?_
 rintro r L1 ⟨rfl,rfl⟩
 simp only [I,go_sem]
 refine zY (args':=[.str faa]) rfl (jo (E:=E.noPan) A) (fun _=>rfl) ?_
 have G:=B
 unfold exB at G
 simp only [D,I,G,go_sem]
 refine zY (args':=[.str faa,.int .i64 3]) rfl (vN (E:=E.noPan) A) (fun _=>rfl) ?_
 simp only [D,I,G,go_sem]
 refine zh (YS (E:=E.noPan) A B R od hf) ?_
 rintro r L' ⟨rfl,rfl⟩
 simp only [D,I,go_sem]
 refine zh (zaB (E:=E.noPan) (ne:=0) (ex:=0) (src:=0) (seq:=0) (ev:=.nsl) (tk:=.nsl) (st:=st0) (req:=rq) (ans:=an) A B R od hf rfl rfl rfl ed rfl od Z (.inl rfl)) ?_
 rintro r L2 ⟨rfl,rfl⟩
 simp only [D,go_sem]
 refine zh (z6B (E:=E.noPan) A) ?_
 rintro r LB ⟨b,rfl,hB⟩
 have gB:=hB.get I
 have lB:=zg gB
 have ln:lenOf .nsl=some 0:=rfl
 simp only [gB,zt ln,go_sem]
 refine zC (fun m ρ M=>m=0/\M=LB/\ρ 0=.ptr x 0 0/\ρ 1=.ptr c 0 0/\ρ 5=.ptr u 0 0/\ρ 9=.int .i64 0/\ρ 12=.ptr b 0 0/\ρ 68=.int .i64 0/\ρ 69=.int .i64 0) ⟨rfl,rfl,by simp only [D,go_sem],by simp only [h1,go_sem],by simp only [go_sem],by simp only [go_sem],by simp only [go_sem],by simp only [go_sem]<;>rfl,by simp only [go_sem]⟩ ?_
 clear D h1 au ρ
 rintro m' ρ M ⟨rfl,rfl,D,h1,Q,V,j,aj,ax⟩
 simp only [Q,aj,ax,gB,go_sem]
 have ah:Plain st0.bytes:=jv.plain
 have gz:=z3W
 refine zh (z6C (E:=E.noPan) (s:=st0) (v:=.nsl) (w:=.nsl) A rfl rfl jv) ?_
 rintro r M2 ⟨rfl,rfl⟩
 simp only [j,go_sem]
 refine zh (z1I (E:=E.noPan) (w:=.isl st0.bytes) (n:=st0.bytes.length) A hB rfl od od) ?_
 rintro r M3 ⟨rfl,T⟩
 have g3:=T.get I
 have l3:=zg g3
 clear hB gB lB
 simp only [V,j,go_sem]
 refine zY (args':=[.int .i64 0]) rfl (VI (E:=E.noPan) A) (fun _=>rfl) ?_
 have cu:(faa.length<=9223372036854775807)=True:=eq_true (by decide)
 simp only [Q,g3,cu,go_sem]
 refine zh (VS (E:=E.noPan) (s:=faa) A (T.keep (Keep.app Keep.refl)) (fun M hM=>z2x M _ (hM.get (by simp) fun h=>h)) (by simp)) ?_
 rintro r M4 ⟨rfl,Y⟩
 clear T g3 l3
 simp only [V,j,go_sem]
 refine zi (args':=[.int .i64 0]) rfl (Yc (E:=E.noPan) A) rfl ?_
 simp only [go_sem]
 refine zh (VS (E:=E.noPan) (s:=strOf st0.bytes) A Y (fun M _=>ah.str) (by simp)) ?_
 rintro r M5 ⟨rfl,J⟩
 clear Y
 have g5:=J.get I
 have l5:=zg g5
 simp only [Q,g5,zt ln,go_sem]
 refine zC (fun m ρ M=>m=0/\M=M5/\ρ 0=.ptr x 0 0/\ρ 1=.ptr c 0 0/\ρ 5=.ptr u 0 0/\ρ 9=.int .i64 0/\ρ 12=.ptr b 0 0/\ρ 117=.int .i64 0/\ρ 118=.int .i64 0) ⟨rfl,rfl,by simp only [D,go_sem],by simp only [h1,go_sem],by simp only [Q,go_sem],by simp only [V,go_sem],by simp only [j,go_sem],by simp only [go_sem]<;>rfl,by simp only [go_sem]⟩ ?_
 clear D h1 Q V j aj ax ρ
 rintro m' ρ M5 ⟨rfl,rfl,D,h1,Q,V,j,ag,az⟩
 have e0:(0:Int)+(st0.bytes.length:Int)=(st0.bytes.length:Int):=by omega
 rw [e0] at J
 have ay:∃F v m,M5[b]?=some (.cells 5 [[.ptr x 0 0,v,.mp m,.int .i64 st0.bytes.length,.bool false]])/\ZF M5 b x [⟨[110,47,48,48,48],faa,false⟩,⟨[115,47,48,48,48],strOf st0.bytes,false⟩] st0.bytes.length F:=by
  obtain ⟨F,⟨v,m,h1,h2⟩,_⟩:=id J
  exact ⟨F,v,m,h1,v,m,h1,h2⟩
 obtain ⟨F5,v5,m5,ae,_⟩:=ay
 have gy:=zg ae
 have f1:((65000:Int)<(st0.bytes.length:Int))=False:=fO
 have f4:((4096:Int)<(an.length:Int))=False:=fO
 simp only [h1,Q,j,ag,az,g5,ae,f1,f4,go_sem]
 refine zh (zal (E:=E.noPan) A) ?_
 rintro r M6 ⟨rfl,rfl⟩
 have z1:(rq=[])=False:=eq_false bu
 simp only [Q,V,j,g5,z1,go_sem]
 refine zh (z6Z (E:=E.noPan) (l:=l) (m:=m) (rq:=rq) (an:=an) A dm J B R od gp hd ho X U hm od od (by simp)) ?_
 rintro r M7 ⟨rfl,S⟩
 have eC:([⟨[110,47,48,48,48],faa,false⟩,⟨[115,47,48,48,48],strOf st0.bytes,false⟩]++ZX ((Y8 l rq).map RqV.key)++ZX (z2q (Z7 l rq))++[⟨rqK m,strOf (yI [⟨rq,an,false⟩]),false⟩]:List OpV)=z2r (strOf st0.bytes) l rq an m:=rfl
 rw [show ([]++[⟨[110,47,48,48,48],faa,false⟩]++[⟨[115,47,48,48,48],strOf st0.bytes,false⟩]++ZX ((Y8 l rq).map RqV.key)++ZX (z2q (Z7 l rq))++[⟨rqK m,strOf (yI [⟨rq,an,false⟩]),false⟩]:List OpV)=z2r (strOf st0.bytes) l rq an m from eC] at S
 have g6:=S.get I
 have l6:=zg g6
 obtain ⟨F6,⟨v6,m6,ak,ik,bg,rfl⟩,q2,q3⟩:=id S
 have gu:=zg ak
 rcases bg with ⟨_,af⟩ | ⟨g,rfl,hg,eu⟩
 ·simp [z2r] at af
 have iy:=q2 g (.inr (.inr ⟨_,rfl⟩))
 have O:Keep none' L M7:=kA.trans q3 fun _ _ h=>h
 have bf:=hS.lt.2.2
 obtain ⟨ai,hfit⟩:=zcw (rq:=rq) (an:=an) bn hm X Z df
 have iw:=z4p (l:=z2r (strOf st0.bytes) l rq an m) (m:=5000) od fun q hq=>⟨(hfit q hq).1.ok,(hfit q hq).2⟩
 have gq:(z2r (strOf st0.bytes) l rq an m).length*(5000+17)<=70*5017:=Nat.mul_le_mul ai (Nat.le_refl _)
 simp only [h1,j,ak,go_sem]
 refine zh (z0w (E:=E.noPan) (l:=z2r (strOf st0.bytes) l rq an m) A (O.get hc fun h=>h) (hS.keep O fun _ _ h=>h) gm hg (fun h=>by have:=bf _ h;have:=kA.1;omega) eu od (fun q hq=>(hfit q hq).1) bz od od od) ?_
 rintro r M8 ⟨rfl,⟨F7,dw,bi⟩,dn⟩
 simp only [go_sem]
 refine ⟨⟨F7,dw.mono od,fun w hw=>?_⟩,(O.mono (F':=F) fun _ _ h=>h.elim).trans dn fun _ _ h=>h⟩
 rcases bi w hw with h | h
 ·exact .inl h
 ·right;have:=O.1;omega
theorem z9d (gl:Nat->Option (List IV)):yw (vG Tryz.prog) gl 600 40 31 [.str [102,97,97],.int .i64 3]=some (.int .i64 1):=by kernel_rfl
theorem z4U (b:E.P=Tryz.prog):zD E 31 [.str [102,97,97],.int .i64 3] (.int .i64 1):=zy (Z8 b) (z9d E.gl)
theorem zcF (gl:Nat->Option (List IV)):yw (vG Tryz.prog) gl 600 40 124 [.str [102,97,97]]=some (.bool true):=by kernel_rfl
theorem z7w (b:E.P=Tryz.prog):zD E 124 [.str [102,97,97]] (.bool true):=zy (Z8 b) (zcF E.gl)
theorem zaO (gl:Nat->Option (List IV)):yw (vG Tryz.prog) gl 600 40 55 [.isl [],.isl []]=some (.bool true):=by kernel_rfl
theorem wQ (b:E.P=Tryz.prog):zD E 55 [.isl [],.isl []] (.bool true):=zy (Z8 b) (zaO E.gl)
theorem z8B (gl:Nat->Option (List IV)):yw (vG Tryz.prog) gl 600 40 61 [.isl [[.str [102,97,97]]],.isl [[.str [102,97,97]]]]=some (.bool true):=by kernel_rfl
theorem z5d (b:E.P=Tryz.prog):zD E 61 [.isl [[.str [102,97,97]]],.isl [[.str [102,97,97]]]] (.bool true):=zy (Z8 b) (z8B E.gl)
theorem zaC (gl:Nat->Option (List IV)):yw (vG Tryz.prog) gl 600 40 65 [.agg [.str [],.str [102,97,97],.str [],.str [],.int .i64 0,.str [],.isl [],.isl [],.int .i64 0],.agg [.str [],.str [102,97,97],.str [],.str [],.int .i64 0,.str [],.isl [],.isl [],.int .i64 0]]=some (.bool true):=by kernel_rfl
theorem z5a (b:E.P=Tryz.prog):zD E 65 [.agg [.str [],.str [102,97,97],.str [],.str [],.int .i64 0,.str [],.isl [],.isl [],.int .i64 0],.agg [.str [],.str [102,97,97],.str [],.str [],.int .i64 0,.str [],.isl [],.isl [],.int .i64 0]] (.bool true):=zy (Z8 b) (zaC E.gl)
theorem z7n (gl:Nat->Option (List IV)):yw (vG Tryz.prog) gl 600 40 66 [.isl [],.isl []]=some (.bool true):=by kernel_rfl
theorem z3X (b:E.P=Tryz.prog):zD E 66 [.isl [],.isl []] (.bool true):=zy (Z8 b) (z7n E.gl)
theorem zcp (gl:Nat->Option (List IV)):yw (vG Tryz.prog) gl 600 40 70 [.isl [],.isl []]=some (.bool true):=by kernel_rfl
theorem z7P (b:E.P=Tryz.prog):zD E 70 [.isl [],.isl []] (.bool true):=zy (Z8 b) (zcp E.gl)
theorem z4w (gl:Nat->Option (List IV)):yw (vG Tryz.prog) gl 600 40 190 [.int .u64 1]=some (.int .i64 1):=by kernel_rfl
theorem z1m (b:E.P=Tryz.prog):zD E 190 [.int .u64 1] (.int .i64 1):=zy (Z8 b) (z4w E.gl)
theorem zc8 (gl:Nat->Option (List IV)):yw (vG Tryz.prog) gl 600 40 131 [.str []]=some (.tup [.raw (.complex .f64 0 0),.int .i64 2]):=by kernel_rfl
theorem z7X (b:E.P=Tryz.prog):zD E 131 [.str []] (.tup [.raw (.complex .f64 0 0),.int .i64 2]):=zy (Z8 b) (zc8 E.gl)
theorem z3C (gl:Nat->Option (List IV)):yw (vG Tryz.prog) gl 600 40 133 [.int .i64 0]=some (.str [111,47,48,48,47]):=by kernel_rfl
theorem z0n (b:E.P=Tryz.prog):zD E 133 [.int .i64 0] (.str [111,47,48,48,47]):=zy (Z8 b) (z3C E.gl)
theorem z5s (gl:Nat->Option (List IV)):yw (vG Tryz.prog) gl 600 40 88 [.int .i64 0]=some (.str [112,47,48,48]):=by kernel_rfl
theorem z1G (b:E.P=Tryz.prog):zD E 88 [.int .i64 0] (.str [112,47,48,48]):=zy (Z8 b) (z5s E.gl)
theorem z3U (gl:Nat->Option (List IV)):yw (vG Tryz.prog) gl 600 40 133 [.int .i64 1]=some (.str [111,47,48,49,47]):=by kernel_rfl
theorem z0m (b:E.P=Tryz.prog):zD E 133 [.int .i64 1] (.str [111,47,48,49,47]):=zy (Z8 b) (z3U E.gl)
theorem z4x (gl:Nat->Option (List IV)):yw (vG Tryz.prog) gl 600 40 88 [.int .i64 1]=some (.str [112,47,48,49]):=by kernel_rfl
theorem z1N (b:E.P=Tryz.prog):zD E 88 [.int .i64 1] (.str [112,47,48,49]):=zy (Z8 b) (z4x E.gl)
theorem z3a (gl:Nat->Option (List IV)):yw (vG Tryz.prog) gl 600 40 133 [.int .i64 2]=some (.str [111,47,48,50,47]):=by kernel_rfl
theorem z0p (b:E.P=Tryz.prog):zD E 133 [.int .i64 2] (.str [111,47,48,50,47]):=zy (Z8 b) (z3a E.gl)
theorem z4B (gl:Nat->Option (List IV)):yw (vG Tryz.prog) gl 600 40 88 [.int .i64 2]=some (.str [112,47,48,50]):=by kernel_rfl
theorem z2o (b:E.P=Tryz.prog):zD E 88 [.int .i64 2] (.str [112,47,48,50]):=zy (Z8 b) (z4B E.gl)
end
end Go.X.TryzW
end
