/- Parts of the proof: Xhcm2, Xhbg, Xhmk1, Xhmk2, Xhwk. -/
import Derived.Test.YtnmhhmbeljlndaaGreatDoorXP16
set_option linter.unusedVariables false
set_option linter.unusedSimpArgs false
set_option linter.unusedSectionVars false
section
open Go Go.X Go.Proofs
set_option maxRecDepth 100000
set_option maxHeartbeats 4000000
namespace Go.X.TryzW
section
variable {E:Env} {ρ:Rho} {L:List Blk} {K:IV->List Blk->Prop}
theorem EvV.ok.plain {e:EvV} (h:e.ok):Plain e.bytes:=by
 obtain ⟨o1,o2,o3,o4,o5,o6⟩:=h
 unfold EvV.bytes
 refine (Plain.app (Zp (by omega)) ?_).app (Zp (by unfold sgnN;split<;>omega))
 simp only [List.flatMap_cons,List.flatMap_nil,List.append_nil]
 exact (yR (by omega)).app (yR (by omega))
def opsB (ex:Nat) (e:EvV) (st:StV) (tk:Zc) (rq an:List UInt8):List OpV:=
 [⟨evK ex,strOf e.bytes,false⟩,⟨[110,47,48,48,48],faa,false⟩,⟨[115,47,48,48,48],strOf st.bytes,false⟩,⟨dpK tk.re tk.im,strOf tk.bytes,false⟩,⟨rqK 0,strOf (opsR [⟨rq,an,false⟩]),false⟩]
theorem zb5 (hP:E.P=Tryz.prog) {x s c t n m N ge gt:Nat} {F:Nat->Prop} {d:KV} {kn:Option StV} {st:StV} {e:EvV} {tk:Zc} {ex:Nat} {rq an:List UInt8} (hg6:E.gl 6=some dbT) (hx:L[x]?=some (exB s)) (hc:L[c]?=some (ctxB t s n (fl n) (fl m) true)) (hS:zt L s F N n d) (hFc:¬F c)
  (hN:d.length<=800000) (hN2:N+1000000<=1099511627776) (hkl:∀p∈d,p.1.length<=1000) (hf:Y2 d kn) (hst:st.ok) (hex:(kn.getD YH).ev=ex) (hse:st.ev=ex+1) (hsz:ex<=1000000) (hd:d.list [114,47,48,48,48,47]=[])
  (he:e.ok) (hge:L[ge]?=some (.cells 4 [e.cells])) (htk:tk.ok) (htk2:(tk.withId n (m+1)).ok) (hk1:tk.kind=1) (hgt:L[gt]?=some (.cells 13 [tk.cells])) (hn:n<65) (hm:m<64) (hrq:rq≠[]) (hrl:rq.length<=256) (hal:an.length<=4096)
  (hsm:e.bytes.length+st.bytes.length+tk.bytes.length<=65000) (htb:(tk.withId n (m+1)).bytes.length<=65000) :
  XT E 10 [.ptr x 0 0,.ptr c 0 0,.agg (updC ex (.sl ge 0 1 1) st (.sl gt 0 1 1) rq an 0 0)] L fun r L'=>∃g',r=.tup [.sl g' 0 1 1,.int .i64 0]/\L'[g']?=some (.cells 13 [(tk.withId n (m+1)).cells])/\L'[c]?=some (ctxB t s n (fl n) (fl (m+1)) true)/\
   (∃F',zt L' s F' (N+1000000) n (d.puts (opsB ex e st (tk.withId n (m+1)) rq an))/\Grown F F' L L')/\Keep (fun u=>u=c\/F u) L L':=by
 refine xt3 (fn:=Tryz.f10) (rs:=[.tmp 6,.tmp 7]) (c:=q10) hP fun ρ h0 h1 h2=>?_
 unfold q10
 have hce:cellsOf (.agg [.str faa,.int .i64 ex,.sl ge 0 1 1,.str st.dfn,.str st.id,.str st.par,.str st.pn,.int .i64 st.st,.str st.txt,.nsl,.nsl,.int .i64 st.ev,.sl gt 0 1 1,.str rq,.str an,.int .i64 0,.int .i64 0])=[.str faa,.int .i64 ex,.sl ge 0 1 1,.str st.dfn,.str st.id,.str st.par,.str st.pn,.int .i64 st.st,.str st.txt,.nsl,.nsl,.int .i64 st.ev,.sl gt 0 1 1,.str rq,.str an,.int .i64 0,.int .i64 0]:=rfl
 unfold updC at h2
 simp (maxDischargeDepth:=12) only [h0,h1,h2,hce,Int.natCast_zero,go_sem,Nat.reduceEqDiff,reduceIte,Nat.reduceAdd]
 obtain ⟨u,hu⟩:∃u,L.length=u:=⟨_,rfl⟩
 have kA:Keep none' L (L++[Blk.cells 17 [[.str faa,.int .i64 ex,.sl ge 0 1 1,.str st.dfn,.str st.id,.str st.par,.str st.pn,.int .i64 st.st,.str st.txt,.nsl,.nsl,.int .i64 st.ev,.sl gt 0 1 1,.str rq,.str an,.int .i64 0,.int .i64 0]]]):=Keep.app Keep.refl
 have gA:(L++[Blk.cells 17 [[.str faa,.int .i64 ex,.sl ge 0 1 1,.str st.dfn,.str st.id,.str st.par,.str st.pn,.int .i64 st.st,.str st.txt,.nsl,.nsl,.int .i64 st.ev,.sl gt 0 1 1,.str rq,.str an,.int .i64 0,.int .i64 0]]])[u]?=some (.cells 17 [[.str faa,.int .i64 ex,.sl ge 0 1 1,.str st.dfn,.str st.id,.str st.par,.str st.pn,.int .i64 st.st,.str st.txt,.nsl,.nsl,.int .i64 st.ev,.sl gt 0 1 1,.str rq,.str an,.int .i64 0,.int .i64 0]]):=by rw [<-hu];simp
 rw [hu]
 generalize hLA:L++[Blk.cells 17 [[.str faa,.int .i64 ex,.sl ge 0 1 1,.str st.dfn,.str st.id,.str st.par,.str st.pn,.int .i64 st.st,.str st.txt,.nsl,.nsl,.int .i64 st.ev,.sl gt 0 1 1,.str rq,.str an,.int .i64 0,.int .i64 0]]]=LA at *
 have hxA:=kA.get hx fun h=>h
 have hcA:=kA.get hc fun h=>h
 have hgeA:=kA.get hge fun h=>h
 have hgtA:=kA.get hgt fun h=>h
 have hSA:zt LA s F N n d:=hS.keep kA fun _ _ h=>h
 have lxA:=zg hxA
 have lA:=zg gA
 refine zh (JD (E:=E.noPan) hP hxA hcA) ?_
 rintro r L1 ⟨rfl,rfl⟩
 simp (maxDischargeDepth:=12) only [gA,go_sem,Nat.reduceEqDiff,reduceIte,Nat.reduceAdd,Nat.reduceLT]
 refine Zt (args':=[.str faa]) rfl (Wn (E:=E.noPan) hP) (fun _=>rfl) ?_
 have hxA1:=hxA
 unfold exB at hxA1
 simp (maxDischargeDepth:=12) only [h0,gA,hxA1,go_sem,Nat.reduceEqDiff,reduceIte,Nat.reduceAdd,Nat.reduceLT]
 refine Zt (args':=[.str faa,.int .i64 3]) rfl (Yy (E:=E.noPan) hP) (fun _=>rfl) ?_
 simp (maxDischargeDepth:=12) only [h0,gA,hxA1,go_sem,Nat.reduceEqDiff,reduceIte,Nat.reduceAdd,Nat.reduceLT]
 refine zh (YL (E:=E.noPan) hP hxA hSA (by omega) hf) ?_
 rintro r L' ⟨rfl,rfl⟩
 simp (maxDischargeDepth:=12) only [h0,gA,go_sem,Nat.reduceEqDiff,reduceIte,Nat.reduceAdd,Nat.reduceLT]
 refine zh (z7R (E:=E.noPan) (ne:=1) (seq:=0) (src:=0) hP hxA hSA (by omega) hf rfl rfl rfl hex (by omega) (by omega) hrl (.inl rfl)) ?_
 rintro r L2 ⟨rfl,rfl⟩
 simp (maxDischargeDepth:=12) only [h0,go_sem,Nat.reduceEqDiff,reduceIte]
 refine zh (z5m (E:=E.noPan) hP) ?_
 rintro r LB ⟨b,rfl,hB⟩
 have gB:=hB.get gA
 have lB:=zg gB
 have ln1:lenOf (.sl ge 0 1 1)=some 1:=rfl
 have ln2:lenOf (.sl gt 0 1 1)=some 1:=rfl
 have hep:=he.plain
 have hsp:=hst.plain
 have htp:=htk.plain
 simp (maxDischargeDepth:=12) only [gB,zC ln1,go_sem,Nat.reduceEqDiff,reduceIte,Nat.reduceAdd,Nat.reduceLT]
 refine zT (fun q ρ M=>ρ 0=.ptr x 0 0/\ρ 1=.ptr c 0 0/\ρ 5=.ptr u 0 0/\ρ 9=.int .i64 0/\ρ 12=.ptr b 0 0/\ρ 67=.sl ge 0 1 1/\ρ 68=.int .i64 1/\((q=1/\M=LB/\ρ 69=.int .i64 0)\/(q=0/\ρ 69=.int .i64 1/\Yo L2 M b x [⟨evK ex,strOf e.bytes,false⟩] e.bytes.length)))
  ⟨by simp (maxDischargeDepth:=12) only [h0,go_sem,Nat.reduceEqDiff,reduceIte],by simp (maxDischargeDepth:=12) only [h1,go_sem,Nat.reduceEqDiff,reduceIte],by simp (maxDischargeDepth:=12) only [go_sem,Nat.reduceEqDiff,reduceIte],by simp (maxDischargeDepth:=12) only [go_sem,Nat.reduceEqDiff,reduceIte],by simp (maxDischargeDepth:=12) only [go_sem,Nat.reduceEqDiff,reduceIte],by simp (maxDischargeDepth:=12) only [go_sem,Nat.reduceEqDiff,reduceIte],by simp (maxDischargeDepth:=12) only [go_sem,Nat.reduceEqDiff,reduceIte]<;>rfl,.inl ⟨rfl,rfl,by simp (maxDischargeDepth:=12) only [go_sem,Nat.reduceEqDiff,reduceIte]⟩⟩ ?_
 clear h0 h1 h2 ρ
 rintro q ρ M ⟨h0,h1,h5,h9,h12,h67,h68,⟨rfl,rfl,h69⟩ | ⟨rfl,h69,hB1⟩⟩
 ·have hge2:=hB.get hgeA
  have lge2:=zg hge2
  unfold EvV.cells at hge2
  simp (maxDischargeDepth:=12) only [h67,h68,h69,hge2,go_sem,Nat.reduceEqDiff,reduceIte,Int.reduceLT,Int.reduceLE,Nat.reduceAdd,Int.reduceToNat]
  show YW E.noPan 39 [.agg e.cells] _ _
  have hBa:Yo L2 (M++[Blk.cells 4 [[IV.int IntKind.i64 e.kind,IV.str e.node,IV.str e.txt,IV.int IntKind.i64 e.num]]]) b x [] 0:=hB.keep (Keep.app Keep.refl)
  generalize M++[Blk.cells 4 [[IV.int IntKind.i64 e.kind,IV.str e.node,IV.str e.txt,IV.int IntKind.i64 e.num]]]=Ma at *
  refine zh (zb3 (E:=E.noPan) hP he) ?_
  rintro r M1 ⟨rfl,rfl⟩
  simp (maxDischargeDepth:=12) only [h12,go_sem,Nat.reduceEqDiff,reduceIte,Int.reduceLT,Nat.reduceAdd,Nat.reduceLT,Int.reduceToNat]
  refine zh (z1v (E:=E.noPan) (w:=.isl e.bytes) (n:=e.bytes.length) hP hBa rfl (by omega) (by omega)) ?_
  rintro r M2 ⟨rfl,hB2⟩
  have g2:=hB2.get gA
  have l2:=zg g2
  have w0:IntKind.i64.wrap ((ex:Int)+0)=(ex:Int):=by rw [wrap64 (by omega) (by omega)];omega
  simp (maxDischargeDepth:=12) only [h5,h9,h12,g2,w0,go_sem,Nat.reduceEqDiff,reduceIte,Int.reduceLT,Nat.reduceAdd,Nat.reduceLT,Int.reduceToNat]
  refine zq (args':=[.int .i64 0,.int .i64 ex]) rfl (z2g (E:=E.noPan) hP hg6 (by omega)) rfl ?_
  simp (maxDischargeDepth:=12) only [go_sem,Nat.reduceEqDiff,reduceIte,Int.reduceLT,Int.reduceToNat]
  refine zh (JE (E:=E.noPan) (s:=strOf e.bytes) hP hB2 (fun M _=>hep.str) (by simp)) ?_
  rintro r M3 ⟨rfl,hB3⟩
  have w1:IntKind.i64.wrap (0+1)=1:=by decide
  simp (maxDischargeDepth:=12) only [wi64,h0,h1,h5,h9,h12,h67,h68,h69,go_sem,Nat.reduceEqDiff,reduceIte,Int.reduceLT,Int.reduceLE,Int.reduceToNat,Int.reduceAdd,Int.reduceNeg]
  have ez:(0:Int)+(e.bytes.length:Int)=(e.bytes.length:Int):=by omega
  rw [ez] at hB3
  exact ⟨0,by omega,.inr ⟨rfl,hB3⟩⟩
 ·clear gB lB hB
  have gB:=hB1.get gA
  have lB:=zg gB
  simp (maxDischargeDepth:=12) only [h5,h68,h69,gB,go_sem,Nat.reduceEqDiff,reduceIte,Int.reduceLT,Nat.reduceAdd,Nat.reduceLeDiff]
  refine zh (z5a (E:=E.noPan) (s:=st) (v:=.nsl) (w:=.nsl) hP rfl rfl hst) ?_
  rintro r M2 ⟨rfl,rfl⟩
  simp (maxDischargeDepth:=12) only [h12,go_sem,Nat.reduceEqDiff,reduceIte,Int.reduceLT,Nat.reduceAdd,Nat.reduceLT]
  refine zh (z1v (E:=E.noPan) (w:=.isl st.bytes) (n:=st.bytes.length) hP hB1 rfl (by omega) (by omega)) ?_
  rintro r M3 ⟨rfl,hB3⟩
  have g3:=hB3.get gA
  have l3:=zg g3
  simp (maxDischargeDepth:=12) only [h9,h12,go_sem,Nat.reduceEqDiff,reduceIte,Int.reduceLT]
  refine Zt (args':=[.int .i64 0]) rfl (vC (E:=E.noPan) hP) (fun _=>rfl) ?_
  have hfl:(faa.length<=9223372036854775807)=True:=eq_true (by decide)
  simp (maxDischargeDepth:=12) only [h5,g3,hfl,go_sem,Nat.reduceEqDiff,reduceIte,Int.reduceLT,Nat.reduceAdd,Nat.reduceLT]
  refine zh (JE (E:=E.noPan) (s:=faa) hP (hB3.keep (Keep.app Keep.refl)) (fun M hM=>z3M M _ (hM.get (by simp) fun h=>h)) (by simp)) ?_
  rintro r M4 ⟨rfl,hB4⟩
  clear hB3 g3 l3
  simp (maxDischargeDepth:=12) only [h9,h12,go_sem,Nat.reduceEqDiff,reduceIte,Int.reduceLT]
  refine zq (args':=[.int .i64 0]) rfl (YA (E:=E.noPan) hP) rfl ?_
  simp (maxDischargeDepth:=12) only [go_sem,Nat.reduceEqDiff,reduceIte,Int.reduceLT]
  refine zh (JE (E:=E.noPan) (s:=strOf st.bytes) hP hB4 (fun M _=>hsp.str) (by simp)) ?_
  rintro r M5 ⟨rfl,hB5⟩
  clear hB4
  have g5:=hB5.get gA
  have l5:=zg g5
  simp (maxDischargeDepth:=12) only [h5,g5,zC ln2,go_sem,Nat.reduceEqDiff,reduceIte,Int.reduceLT,Nat.reduceAdd,Nat.reduceLT]
  refine zT (fun q ρ M=>ρ 0=.ptr x 0 0/\ρ 1=.ptr c 0 0/\ρ 5=.ptr u 0 0/\ρ 9=.int .i64 0/\ρ 12=.ptr b 0 0/\ρ 116=.sl gt 0 1 1/\ρ 117=.int .i64 1/\((q=1/\M=M5/\ρ 118=.int .i64 0)\/(q=0/\ρ 118=.int .i64 1/\Yo L2 M b x [⟨evK ex,strOf e.bytes,false⟩,⟨[110,47,48,48,48],faa,false⟩,⟨[115,47,48,48,48],strOf st.bytes,false⟩] ((e.bytes.length+st.bytes.length+tk.bytes.length:Nat):Int))))
   ⟨by simp (maxDischargeDepth:=12) only [h0,go_sem,Nat.reduceEqDiff,reduceIte],by simp (maxDischargeDepth:=12) only [h1,go_sem,Nat.reduceEqDiff,reduceIte],by simp (maxDischargeDepth:=12) only [h5,go_sem,Nat.reduceEqDiff,reduceIte],by simp (maxDischargeDepth:=12) only [h9,go_sem,Nat.reduceEqDiff,reduceIte],by simp (maxDischargeDepth:=12) only [h12,go_sem,Nat.reduceEqDiff,reduceIte],by simp (maxDischargeDepth:=12) only [go_sem,Nat.reduceEqDiff,reduceIte],by simp (maxDischargeDepth:=12) only [go_sem,Nat.reduceEqDiff,reduceIte]<;>rfl,.inl ⟨rfl,rfl,by simp (maxDischargeDepth:=12) only [go_sem,Nat.reduceEqDiff,reduceIte]⟩⟩ ?_
  clear h0 h1 h5 h9 h12 h67 h68 h69 ρ
  rintro q ρ M ⟨h0,h1,h5,h9,h12,h116,h117,⟨rfl,rfl,h118⟩ | ⟨rfl,h118,hB6⟩⟩
  ·have hgt2:=hB5.get hgtA
   have lgt2:=zg hgt2
   unfold Zc.cells at hgt2
   rw [hk1] at hgt2
   simp (maxDischargeDepth:=12) only [h116,h117,h118,hgt2,go_sem,Nat.reduceEqDiff,reduceIte,Int.reduceLT,Int.reduceLE,Nat.reduceAdd,Int.reduceToNat]
   have hic:∀a b:Nat,zJ (.raw (.complex .f64 a b))=true:=fun _ _=>rfl
   simp (maxDischargeDepth:=12) only [hic,go_sem]
   have eC:tk.cells=[.int .i64 1,.raw (.complex .f64 tk.rb tk.ib),.str tk.flow,.str tk.node,.int .i64 tk.try_,.int .i64 tk.at_,.int .i64 0,.str [],.str [],.str [],.str [],.str [],.int .i64 0]:=by unfold Zc.cells;rw [hk1];rfl
   rw [<-eC]
   obtain ⟨tb,htbl⟩:∃tb,M.length=tb:=⟨_,rfl⟩
   have gtb:(M++[Blk.cells 13 [tk.cells]])[tb]?=some (.cells 13 [tk.cells]):=by rw [<-htbl];simp
   obtain ⟨F5,f1,f2,f3⟩:=hB5
   have hFt:¬F5 tb:=fun h=>by have:=f1.lt.2.2 _ h;omega
   have kMa:Keep none' M (M++[Blk.cells 13 [tk.cells]]):=Keep.app Keep.refl
   have f1a:=f1.keep kMa fun _ _ h=>h
   have f3a:=f3.trans kMa fun _ _ h=>h
   rw [htbl]
   generalize M++[Blk.cells 13 [tk.cells]]=Ma at *
   refine zh (z7n (E:=E.noPan) hP htk) ?_
   rintro r M1 ⟨rfl,rfl⟩
   simp (maxDischargeDepth:=12) only [h12,go_sem,Nat.reduceEqDiff,reduceIte,Int.reduceLT,Nat.reduceAdd,Nat.reduceLT,Int.reduceToNat]
   refine zh (z5B (E:=E.noPan) (w:=.isl tk.bytes) (n:=tk.bytes.length) hP f1a rfl (by omega) (by omega)) ?_
   rintro r M2 ⟨rfl,j1,j2,j3⟩
   have g20:=j2.get gtb hFt
   have l20:=zg g20
   rw [eC] at g20
   have w1:IntKind.i64.wrap (0+1)=1:=by decide
   simp (maxDischargeDepth:=12) only [wi64,h0,h1,h5,h9,h12,h116,h117,h118,g20,go_sem,Nat.reduceEqDiff,reduceIte,Int.reduceEq,Int.reduceLT,Int.reduceLE,Nat.reduceAdd,Int.reduceToNat,Int.reduceAdd,Int.reduceNeg]
   have ez:((0:Int)+(e.bytes.length:Int)+(st.bytes.length:Int)+(tk.bytes.length:Int))=((e.bytes.length+st.bytes.length+tk.bytes.length:Nat):Int):=by omega
   have ez2:((e.bytes.length:Int)+(st.bytes.length:Int)+(tk.bytes.length:Int))=((e.bytes.length+st.bytes.length+tk.bytes.length:Nat):Int):=by omega
   refine ⟨0,by omega,.inr ⟨rfl,?_⟩⟩
   have hfin:=Yo.step f2 f3a j1 Grown.refl j2
   rw [ez2] at hfin
   exact hfin
  ·clear hB5
   have hnot:∃F v m,M[b]?=some (.cells 5 [[.ptr x 0 0,v,.mp m,.int .i64 ((e.bytes.length+st.bytes.length+tk.bytes.length:Nat):Int),.bool false]])/\ZE M b x [⟨evK ex,strOf e.bytes,false⟩,⟨[110,47,48,48,48],faa,false⟩,⟨[115,47,48,48,48],strOf st.bytes,false⟩] ((e.bytes.length+st.bytes.length+tk.bytes.length:Nat):Int) F:=by
    obtain ⟨F,⟨v,m,h1,h2⟩,_⟩:=id hB6
    exact ⟨F,v,m,h1,v,m,h1,h2⟩
   obtain ⟨F6,v6,m6,hb6,_⟩:=hnot
   have lb6:=zg hb6
   have gB6:=hB6.get gA
   have lB6:=zg gB6
   have f1:((65000:Int)<((e.bytes.length+st.bytes.length+tk.bytes.length:Nat):Int))=False:=eq_false (by omega)
   have f2:((4096:Int)<(an.length:Int))=False:=eq_false (by omega)
   simp (maxDischargeDepth:=12) only [h1,h5,h12,h117,h118,gB6,hb6,f1,f2,go_sem,Nat.reduceEqDiff,reduceIte,Int.reduceLT,Nat.reduceAdd,Nat.reduceLT]
   refine zh (z7Y (E:=E.noPan) hP hg6 hB6 hcA (hB6.get hcA) (hB6.get hgtA) htk2 hk1 hn hm (by simp)) ?_
   rintro r M7 ⟨g7,rfl,gg7,gc7,F7,f71,f72,f73,f74,f75⟩
   have hcl:=zf hcA
   have hcu:¬u=c:=by have:=zf hc;omega
   have gA7:=f73.get gA hcu
   have lA7:=zg gA7
   have hxc:¬x=c:=fun h=>by subst h;rw [hxA] at hcA;simp [exB,ctxB] at hcA
   have hx7:=f73.get hxA hxc
   have hS7:=hSA.keep f73 fun u h1 h2=>hFc (h2▸h1)
   have z1:(rq=[])=False:=eq_false hrq
   simp (maxDischargeDepth:=12) only [h5,h9,h12,gA7,z1,go_sem,Nat.reduceEqDiff,reduceIte,Int.reduceLT,Nat.reduceAdd,Nat.reduceLT]
   refine zh (z1T (E:=E.noPan) hP hg6 f71 hx7 hS7 (by omega) hkl hd (by omega) (by omega) (by simp)) ?_
   rintro r M8 ⟨rfl,⟨F8,b8,hG8⟩,k8⟩
   have gg8:=k8.get gg7 f74
   have hFc7:¬F7 c:=fun h=>by have:=f72 c h;omega
   have gc8:=k8.get gc7 hFc7
   obtain ⟨v8,m8,hb8,hm8,hv8,hF8⟩:=id b8
   have lb8:=zg hb8
   have eB:([⟨evK ex,strOf e.bytes,false⟩,⟨[110,47,48,48,48],faa,false⟩,⟨[115,47,48,48,48],strOf st.bytes,false⟩]++[⟨dpK n (m+1),strOf (tk.withId n (m+1)).bytes,false⟩]++[⟨rqK 0,strOf (opsR [⟨rq,an,false⟩]),false⟩]:List OpV)=opsB ex e st (tk.withId n (m+1)) rq an:=rfl
   rw [eB] at hv8
   rcases hv8 with ⟨_,hbad⟩ | ⟨g,rfl,hg,hne⟩
   ·simp [opsB] at hbad
   simp (maxDischargeDepth:=12) only [h1,h12,hb8,go_sem,Nat.reduceEqDiff,reduceIte,Int.reduceLT,Nat.reduceAdd,Nat.reduceLT]
   have hFlt:=hS.lt.2.2
   have hAl:=kA.1
   have hgG:L2.length<=g:=by
    have hg8:F8 g:=by rw [hF8];exact .inr (.inr ⟨_,rfl⟩)
    rcases hG8 g hg8 with h | h
    ·exact f72 g h
    ·have:=f73.1;omega
   have hS8:=hS7.keep k8 fun u h1 h2=>by have:=f72 u h2;have:=hFlt u h1;omega
   have tp2:=htk2.plain
   have lev:=yt ex
   have ldp1:=yt n
   have ldp2:=yt (m+1)
   have lrq:=yt 0
   have rqp:=RqV.ok.plain (q:=⟨[],rq,an⟩) ⟨by show rq.length<=_;omega,by show an.length<=_;omega⟩
   have rql:=RqV.ok.len (q:=⟨[],rq,an⟩) ⟨by show rq.length<=_;omega,by show an.length<=_;omega⟩
   have hfit:∀q∈opsB ex e st (tk.withId n (m+1)) rq an,q.fit/\q.gone=false/\q.key.length+q.val.length<=70000:=by
    intro q hq
    simp only [opsB,List.mem_cons,List.not_mem_nil,or_false] at hq
    rcases hq with rfl | rfl | rfl | rfl | rfl
    ·refine ⟨⟨(show evK ex≠[] by unfold evK;simp),(show (evK ex).length<=200 by unfold evK;simp only [lla,llc,lln];omega),?_,fun h=>by cases h⟩,rfl,?_⟩
     ·show (strOf e.bytes).length<=_
      rw [hep.len];omega
     ·show (evK ex).length+(strOf e.bytes).length<=_
      rw [hep.len];unfold evK;simp only [lla,llc,lln];omega
    ·exact ⟨⟨by decide,by decide,by decide,fun h=>by cases h⟩,rfl,by decide⟩
    ·refine ⟨⟨List.cons_ne_nil _ _,(show ([115,47,48,48,48]:List UInt8).length<=200 by decide),?_,fun h=>by cases h⟩,rfl,?_⟩
     ·show (strOf st.bytes).length<=_
      rw [hsp.len];omega
     ·show 5+(strOf st.bytes).length<=_
      rw [hsp.len];omega
    ·refine ⟨⟨(show dpK n (m+1)≠[] by unfold dpK;simp),(show (dpK n (m+1)).length<=200 by unfold dpK;simp only [lla,llc,lln];omega),?_,fun h=>by cases h⟩,rfl,?_⟩
     ·show (strOf (tk.withId n (m+1)).bytes).length<=_
      rw [tp2.len];omega
     ·show (dpK n (m+1)).length+(strOf (tk.withId n (m+1)).bytes).length<=_
      rw [tp2.len];unfold dpK;simp only [lla,llc,lln];omega
    ·refine ⟨⟨(show rqK 0≠[] by unfold rqK;simp),(show (rqK 0).length<=200 by unfold rqK;simp only [lla,llc,lln];omega),?_,fun h=>by cases h⟩,rfl,?_⟩
     ·show (strOf (opsR [⟨rq,an,false⟩])).length<=_
      rw [rqp.len];exact Nat.le_trans rql (by decide)
     ·show (rqK 0).length+(strOf (opsR [⟨rq,an,false⟩])).length<=_
      rw [rqp.len];unfold rqK;simp only [lla,llc,lln]
      have:(opsR [⟨rq,an,false⟩]).length<=11000:=rql
      omega
   have hol:(opsB ex e st (tk.withId n (m+1)) rq an).length=5:=rfl
   have hob:=Js (l:=opsB ex e st (tk.withId n (m+1)) rq an) (m:=70000) (by omega) fun q hq=>⟨(hfit q hq).1.ok,(hfit q hq).2.2⟩
   rw [hol] at hob
   refine zh (Ws (E:=E.noPan) (l:=opsB ex e st (tk.withId n (m+1)) rq an) hP gc8 hS8 hFc hg (fun h=>by have:=hFlt _ h;omega) hne (by omega) (fun q hq=>(hfit q hq).1) (fun q hq=>(hfit q hq).2.1) (by omega) (by omega) (by omega)) ?_
   rintro r M9 ⟨rfl,⟨F9,hS9,hG9⟩,hk9⟩
   simp (maxDischargeDepth:=12) only [go_sem,Nat.reduceEqDiff,reduceIte,Int.reduceLT]
   have k28:Keep (fun u=>u=c\/F u) L M8:=((kA.mono (F':=fun u=>u=c\/F u) fun _ _ h=>h.elim).trans (f73.mono (F':=fun u=>u=c\/F u) fun _ _ h=>.inl h) fun _ _ h=>h).trans k8 fun u hu h=>by have:=f72 u h;omega
   refine ⟨g7,rfl,hk9.get gg8 fun h=>by have:=hFlt _ h;omega,hk9.get gc8 hFc,⟨F9,hS9.mono (by omega),fun w hw=>?_⟩,k28.trans hk9 fun u _ h=>.inr h⟩
   rcases hG9 w hw with h | h
   ·exact .inl h
   ·right;have:=k28.1;omega
end
end Go.X.TryzW
end
section
open Go Go.X Go.Proofs
set_option maxRecDepth 100000
set_option maxHeartbeats 4000000
namespace Go.X.TryzW
def q23 : XC :=(sO [oV 2 (.bool false)] (.seq (.drawE [oM 6 0,oN 7 6,oF 8 0 7,oL 9 8,oM 10 0,oN 11 10,oF 12 1 11,oL 13 12,oC 14 80 [.t 9,.t 13,(oi 1),(oi 4)],oM 5 14,oX 15 0 5,oX 16 1 5,oM 3 15,oM 4 16]) (.seq (sO [oM 17 4,oK 18 .neq 17 0,oM 19 18,oG 20 19 false (.mov (.t 3)),oG 21 19 false (.ex (.eqP false) [.t 20,oz]),oO 22 (.pick (.t 19) (.c (.bool true)) (.t 21))] (cT 22 (sO [oV 2 (.bool false)] .ret) .skip)) (sO [oM 23 0,oM 24 3,oN 25 23,oF 26 3 25,oS 26 24] (sO [oM 27 0,oN 28 27,oF 29 6 28,oL 30 29,oK 31 .add 30 1,oN 32 27,oF 33 6 32,oS 33 31] (sO [oM 34 0,oN 35 34,oF 36 7 35,oU (.store 1 (.t 36) (oi 0))] (.seq (.drawE [oM 37 3,oQ 38 81 [.t 37],oM 39 0,oN 40 39,oF 41 6 40,oL 42 41,oB 43 .eql 38 42,oM 2 43]) .ret)))))))
def q5 : XC :=(sO [oO 0 (.mov oz)] (sO [oC 9 18 [],oM 1 9] (sO [oC 11 18 [],oC 12 19 [.t 11],oM 10 12,oX 13 0 10,oX 14 1 10,oM 2 13,oM 3 14] (sO [oM 16 1,oC 17 20 [.t 16,(oi 0)],oM 15 17,oX 18 0 15,oX 19 1 15,oM 4 18,oM 5 19] (.seq (sO [oM 20 3,oK 21 .neq 20 0,oM 22 21,oG 23 22 false (.mov (.t 5)),oG 24 22 false (.bin .neq (.t 23) (oi 0)),oO 25 (.pick (.t 22) (.c (.bool true)) (.t 24)),oM 26 25,oG 27 26 false (.mov (.t 2)),oG 28 26 false (.ex (.eqP false) [.t 27,oz]),oO 29 (.pick (.t 26) (.c (.bool true)) (.t 28)),oM 30 29,oG 31 30 false (.mov (.t 4)),oG 32 30 false (.ex (.eqP false) [.t 31,oz]),oO 33 (.pick (.t 30) (.c (.bool true)) (.t 32))] (cT 33 (sO [oO 0 (.mov oz)] .ret) .skip)) (sO [oM 34 2,oM 35 4,oM 36 1,oC 37 21 [(oi 3),(oi 1)],oO 38 (.build [(.raw (.pointer none)),(.raw (.pointer none)),(.raw (.pointer none)),(.raw (.pointer none)),(.raw (.pointer none)),(.raw (.pointer none)),(.int .i64 0),(.int .i64 0)] [(0,(1,(.t 34))),(1,(1,(.t 35))),(2,(1,(.t 36))),(5,(1,(.t 37)))]),oO 39 (.box (.t 38)),oM 6 39] (sO [oM 41 4,oC 42 22 [.t 41,(oi 3),(oi 1)],oM 40 42,oX 43 0 40,oX 44 1 40,oM 7 43,oM 8 44] (.seq (sO [oM 45 8,oK 46 .neq 45 0,oM 47 46,oG 48 47 false (.mov (.t 7)),oG 49 47 false (.ex (.eqP false) [.t 48,oz]),oO 50 (.pick (.t 47) (.c (.bool true)) (.t 49)),oM 51 50,oG 52 51 false (.mov (.t 6)),oG 53 51 false (.call (.f 23) [.t 52]),oG 54 51 false (.un .not (.t 53)),oO 55 (.pick (.t 51) (.c (.bool true)) (.t 54))] (cT 55 (sO [oO 0 (.mov oz)] .ret) .skip)) (sO [oM 56 6,oM 57 7,oN 58 56,oF 59 4 58,oS 59 57] (sO [oM 60 6,oM 0 60] .ret))))))))))
def q21 : XC :=(sO [oO 4 (.mov oz)] (sO [oM 5 0,oM 6 1,oO 7 (.build [(.int .i64 0),(.int .i64 0),(.int .i64 0),.nsl,.nsl,.nsl,.nsl,.nsl,.nsl,.nsl,.nsl,.nsl,.nsl,.nsl,.nsl,.nsl,.nsl,.nsl,.nsl,.nsl,.nsl,.nsl,(.int .i64 0),(.int .i64 0),(.int .i64 0),(.int .i64 0),(.int .i64 0),(.int .i64 0),(.int .i64 0),(.int .i64 0),(.int .i64 0),(.int .i64 0),(.int .i64 0),(.int .i64 0),(.int .i64 0),(.int .i64 0),(.int .i64 0),(.int .i64 0),(.int .i64 0),(.int .i64 0),(.int .i64 0),(.int .i64 0),(.int .i64 0),(.int .i64 0),(.int .i64 0),(.int .i64 0),(.int .i64 0),(.int .i64 0),(.int .i64 0),(.int .i64 0),(.int .i64 0),(.int .i64 0),(.int .i64 0),(.int .i64 0),(.raw (.complex .f64 0 0))] [(0,(1,(.t 5))),(1,(1,(.t 6)))]),oO 8 (.box (.t 7)),oM 4 8] .ret))
def q6 : XC :=(sO [oI 4 0] (sO [oM 5 0,oM 6 1,oB 7 .rem 5 6,oM 0 7] (.seq (sO [oM 8 0,oK 9 .lss 8 0] (cT 9 (.ops [oM 10 0,oM 11 1,oB 12 .add 10 11,oM 0 12]) .skip)) (sO [oM 13 0,oM 4 13] .ret))))
section
variable {E:Env} {ρ:Rho} {L:List Blk} {K:IV->List Blk->Prop}
def plB (t s dk:Nat) (c x:IV) (r n made:Nat):Blk:=.cells 8 [[.ptr t 0 0,.ptr s 0 0,.ptr dk 0 0,c,x,.ptr r 0 0,.int .i64 n,.int .i64 made]]
theorem zcD (hP:E.P=Tryz.prog) {p t s dk r0 NT NS n made:Nat} {c0 x0:IV} {FT FS:Nat->Prop} {dT d:KV} {o:Int} (hp:L[p]?=some (plB t s dk c0 x0 r0 n made)) (hT:ZC L t FT NT dT) (hl:vg dT o n) (hS:zt L s FS NS n d) (hdis:∀u,FT u->¬FS u) (hpT:¬FT p) (hpS:¬FS p)
  (hn:n<4503599627370496) (hN:dT.length<=800000) (hN2:NT+1000<=1099511627776) (hN3:NS+300<=1099511627776) :
  XT E 23 [.ptr p 0 0] L fun r L'=>r=.bool true/\∃c,L.length<=c/\L'[p]?=some (plB t s dk (.ptr c 0 0) x0 r0 (n+1) 0)/\L'[c]?=some (ctxB t s (n+1) (floatOfInt .f64 ((n+1:Nat):Int)) 0 true)/\
   (∃FT' FS' NT',NT'<=NT+1000/\ZC L' t FT' NT' (dT.put [108,101,97,115,101,47,49] (strOf (Zo 4 (n+1))))/\zt L' s FS' (NS+300) ((n+1:Nat):Int) d/\(∀u,FT' u->¬FS' u)/\¬FT' c/\¬FS' c/\¬FT' p/\¬FS' p/\Grown FT FT' L L'/\Grown FS FS' L L')/\Keep (fun u=>u=p\/FT u\/FS u) L L':=by
 have lp:=zg hp
 have hpl:=zf hp
 have hp0:=hp
 unfold plB at hp
 refine xt1 (fn:=Tryz.f23) (rs:=[.tmp 2]) (c:=q23) hP fun ρ h0=>?_
 unfold q23
 have ep:∀u:Nat,WG (.ptr u 0 0) (.raw (.pointer none))=some false:=fun _=>rfl
 simp only [h0,hp,go_sem,Nat.reduceEqDiff,reduceIte,Nat.reduceAdd,Nat.reduceLT]
 refine zh (z6J (E:=E.noPan) hP hT hl hS hdis hn hN hN2 hN3) ?_
 rintro r L1 ⟨c,rfl,hcl,hc,⟨FT',FS',NT',q1,q2,q3,q4,q5,q6,q7,q8⟩,hk⟩
 have hpF:¬(FT p\/FS p):=fun h=>h.elim hpT hpS
 have hp1:=hk.get hp hpF
 have lp1:=zg hp1
 have hcl2:=zf hc
 have lc1:=zg hc
 have pc:(p=c)=False:=eq_false (by omega)
 have cp:(c=p)=False:=eq_false (by omega)
 have w1:IntKind.i64.wrap ((n:Int)+1)=((n+1:Nat):Int):=by rw [wrap64 (by omega) (by omega)];rfl
 simp only [h0,ep,hp1,lp1,w1,go_sem,Nat.reduceEqDiff,reduceIte,Nat.reduceAdd,Nat.reduceLT,Nat.reduceLeDiff]
 rw [List.set_set,List.set_set]
 obtain ⟨M,hM⟩:∃M,L1.set p (Blk.cells 8 [[IV.ptr t 0 0,IV.ptr s 0 0,IV.ptr dk 0 0,IV.ptr c 0 0,x0,IV.ptr r0 0 0,IV.int .i64 ((n+1:Nat):Int),IV.int .i64 0]])=M:=⟨_,rfl⟩
 rw [hM]
 have kM:Keep (fun u=>u=p) L1 M:=by rw [<-hM];exact Keep.set Keep.refl fun _=>rfl
 have hpM:M[p]?=some (Blk.cells 8 [[IV.ptr t 0 0,IV.ptr s 0 0,IV.ptr dk 0 0,IV.ptr c 0 0,x0,IV.ptr r0 0 0,IV.int .i64 ((n+1:Nat):Int),IV.int .i64 0]]):=by rw [<-hM,List.getElem?_set_self (zf hp1)]
 have hcM:=kM.get hc (by omega)
 have lM:M.length=L1.length:=by rw [<-hM,lls]
 refine yH (E:=E.noPan) (.int .i64 ((n+1:Nat):Int)) rfl (fun L2 ha=>z9M (by exact hP) ((yG ha).get hcM fun h=>h)) ?_
 have lpM:=zg hpM
 simp only [h0,hpM,go_sem,Nat.reduceEqDiff,reduceIte,Nat.reduceAdd,Nat.reduceLT]
 have hTp:¬FT' p:=fun h=>by
  rcases q7 _ h with h | h
  ·exact hpT h
  ·omega
 have hSp:¬FS' p:=fun h=>by
  rcases q8 _ h with h | h
  ·exact hpS h
  ·omega
 refine ⟨c,hcl,rfl,hcM,⟨FT',FS',NT',q1,q2.keep kM fun u h1 h2=>hTp (h2▸h1),q3.keep kM fun u h1 h2=>hSp (h2▸h1),q4,q5,q6,hTp,hSp,fun u hu=>?_,fun u hu=>?_⟩,(hk.mono (F':=fun u=>u=p\/FT u\/FS u) fun u _ h=>.inr h).trans kM fun u _ h=>.inl h⟩
 ·rw [lM];exact q7 u hu
 ·rw [lM];exact q8 u hu
theorem zc1 (hP:E.P=Tryz.prog):XT E 21 [.int .i64 3,.int .i64 1] L fun r L'=>∃b,r=.ptr L.length 0 0/\L'=L++[b]:=by
 refine xt2 (fn:=Tryz.f21) (rs:=[.tmp 4]) (c:=q21) hP fun ρ h0 h1=>?_
 unfold q21
 simp only [h0,h1,go_sem,Nat.reduceEqDiff,reduceIte,Nat.reduceAdd,Nat.reduceLeDiff]
 exact ⟨_,rfl⟩
theorem z09 (hP:E.P=Tryz.prog) (n m:Int) (hm0:0<m) (hm:m<=1000000000):zI E 6 [.int .i64 n,.int .i64 m] (.int .i64 (n%m)):=by
 refine yu (n:=Tryz.f6.ntmps) (c:=q6) (t:=4) (by rw [hP];rfl) (by rw [hP];kernel_rfl) (by decide) (Nat.le_of_ble_eq_true rfl) ?_
 generalize hρ:entry _=ρ
 have h0:ρ 0=.int .i64 n:=by rw [<-hρ];rfl
 have h1:ρ 1=.int .i64 m:=by rw [<-hρ];rfl
 clear hρ
 unfold q6
 simp only [h0,h1,go_sem,Nat.reduceEqDiff,reduceIte]
 refine ⟨by omega,?_⟩
 have hq:n%m=(n.tmod m)%m:=by
  conv=>lhs;rw [<-Int.tmod_add_mul_tdiv n m]
  rw [Int.add_mul_emod_self_left]
 have ht1:=Int.tmod_lt_of_pos n hm0
 have ht2:=Int.lt_tmod_of_pos n hm0
 refine s_cond (b:=decide (n.tmod m<0)) (by simp only [go_sem,Nat.reduceEqDiff,reduceIte]) ?_ ?_<;>intro hb<;>simp only [h0,h1,hb,go_sem,Nat.reduceEqDiff,reduceIte]
 ·rw [decide_eq_true_eq] at hb
  have e:n.tmod m+m=n%m:=by
   rw [hq,<-Int.add_emod_right,Int.emod_eq_of_lt (by omega) (by omega)]
  rw [e,wrap64 (by omega) (by omega)]
  rfl
 ·rw [decide_eq_false_iff_not] at hb
  have e:n.tmod m=n%m:=by rw [hq,Int.emod_eq_of_lt (by omega) (by omega)]
  rw [e]
  rfl
def z5h (L:List Blk) (p t s dk c x r0 n made:Nat) (FT FS:Nat->Prop) (NT NS:Nat) (dT d:KV):Prop:=
 L[p]?=some (plB t s dk (.ptr c 0 0) (.ptr x 0 0) r0 n made)/\L[x]?=some (exB s)/\L[c]?=some (ctxB t s n (floatOfInt .f64 ((n:Nat):Int)) 0 true)/\ZC L t FT NT dT/\vg dT 4 n/\zt L s FS NS n d/\(∀u,FT u->¬FS u)/\
  (¬FT p/\¬FT x/\¬FT c)/\(¬FS p/\¬FS x/\¬FS c)
theorem z2S (hP:E.P=Tryz.prog):XT E 5 [] L fun r L'=>∃p t s dk c x r0 FT FS NT NS dT,r=.ptr p 0 0/\z5h L' p t s dk c x r0 1 0 FT FS NT NS dT []/\NT<=1000/\NS<=1000/\dT.length<=1/\(∀u,FT u->L.length<=u)/\(∀u,FS u->L.length<=u)/\L.length<=p/\L.length<=c/\Keep none' L L':=by
 refine xtA (fn:=Tryz.f5) (rs:=[.tmp 0]) (c:=q5) hP rfl (by kernel_rfl) (by decide) (Nat.le_of_ble_eq_true rfl) fun ρ e=>?_
 clear e
 unfold q5
 have ep:∀u:Nat,WG (.ptr u 0 0) (.raw (.pointer none))=some false:=fun _=>rfl
 simp only [go_sem]
 refine zh (z0W (E:=E.noPan) hP) ?_
 rintro r L1 ⟨d1,m1,rfl,e1,rfl,rfl⟩
 have k1:Keep none' L L1:=by rw [e1,show L++[Blk.map [] 0,dskB L.length 0 0]=L++[Blk.map [] 0]++[dskB L.length 0 0] by simp];exact Keep.app (Keep.app Keep.refl)
 have l1:L1.length=L.length+2:=by rw [e1];simp
 have gd1:L1[L.length+1]?=some (dskB L.length 0 0):=by rw [e1];simp []
 have gm1:L1[L.length]?=some (.map [] 0):=by rw [e1];simp []
 clear e1
 simp only [go_sem,Nat.reduceEqDiff,reduceIte]
 refine zh (z0W (E:=E.noPan) hP) ?_
 rintro r L2 ⟨d2,m2,rfl,e2,rfl,rfl⟩
 have k2:Keep none' L1 L2:=by rw [e2,show L1++[Blk.map [] 0,dskB L1.length 0 0]=L1++[Blk.map [] 0]++[dskB L1.length 0 0] by simp];exact Keep.app (Keep.app Keep.refl)
 have l2:L2.length=L1.length+2:=by rw [e2];simp
 have gd2:L2[L1.length+1]?=some (dskB L1.length 0 0):=by rw [e2];simp []
 have gm2:L2[L1.length]?=some (.map [] 0):=by rw [e2];simp []
 clear e2
 simp only [go_sem,Nat.reduceEqDiff,reduceIte]
 refine zh (z9O (E:=E.noPan) hP gd2 gm2) ?_
 rintro r L3 ⟨t,rfl,⟨FT,hT,hGT⟩,k3⟩
 simp only [go_sem,Nat.reduceEqDiff,reduceIte,Nat.reduceAdd,Nat.reduceLT]
 refine zh (z7J (E:=E.noPan) hP (k3.get (k2.get gd1 fun h=>h) fun h=>h) (k3.get (k2.get gm1 fun h=>h) fun h=>h)) ?_
 rintro r L4 ⟨s,rfl,⟨FS,hS,hGS⟩,hs4,k4⟩
 simp only [ep,go_sem,Nat.reduceEqDiff,reduceIte,Nat.reduceAdd,Nat.reduceLT]
 refine zh (zc1 (E:=E.noPan) hP) ?_
 rintro r L5 ⟨rb,rfl,e5⟩
 have k5:Keep none' L4 L5:=by rw [e5];exact Keep.app Keep.refl
 have l5:L5.length=L4.length+1:=by rw [e5];simp
 clear e5
 simp only [go_sem,Nat.reduceEqDiff,reduceIte,Nat.reduceAdd,Nat.reduceLeDiff]
 obtain ⟨p,hp⟩:∃p,L5.length=p:=⟨_,rfl⟩
 rw [hp]
 obtain ⟨L6,h6⟩:∃L6,L5++[Blk.cells 8 [[IV.ptr t 0 0,IV.ptr s 0 0,IV.ptr (L.length+1) 0 0,IV.raw (Value.pointer none),IV.raw (Value.pointer none),IV.ptr L4.length 0 0,IV.int .i64 0,IV.int .i64 0]]]=L6:=⟨_,rfl⟩
 rw [h6]
 have k6:Keep none' L5 L6:=by rw [<-h6];exact Keep.app Keep.refl
 have l6:L6.length=p+1:=by rw [<-h6,<-hp];simp
 have gp6:L6[p]?=some (plB t s (L.length+1) (.raw (Value.pointer none)) (.raw (Value.pointer none)) L4.length 0 0):=by rw [<-h6,<-hp];simp [plB]
 clear h6
 refine zh (zdU (E:=E.noPan) hP) ?_
 rintro r L7 ⟨rfl,e7⟩
 have k7:Keep none' L6 L7:=by rw [e7];exact Keep.app Keep.refl
 have l7:L7.length=L6.length+1:=by rw [e7];simp
 have gx7:L7[L6.length]?=some (exB s):=by rw [e7];simp
 clear e7
 have gp7:=k7.get gp6 fun h=>h
 have n46:=k5.trans k6 fun _ _ h=>h
 have n47:Keep none' L4 L7:=n46.trans k7 fun _ _ h=>h
 have n37:Keep none' L3 L7:=k4.trans n47 fun _ _ h=>h
 have hT7:=hT.keep n37 fun _ _ h=>h
 have hS7:=hS.keep n47 fun _ _ h=>h
 have hTl:=hT.lt.2.2
 have hSl:=hS.lt.2.2
 have a1:=k1.1
 have a2:=k2.1
 have a3:=k3.1
 have a4:=k4.1
 have a5:=k5.1
 have hTg:∀u,FT u->L1.length<=u:=fun u hu=>by
  rcases hGT u hu with (h | h) | h
  ·omega
  ·omega
  ·omega
 have hSg:∀u,FS u->L.length<=u/\(u<L1.length\/L3.length<=u):=fun u hu=>by
  rcases hGS u hu with (h | h) | h
  ·omega
  ·omega
  ·omega
 have hdis:∀u,FT u->¬FS u:=fun u h1 h2=>by
  have:=hTl u h1
  have:=hTg u h1
  have:=hSg u h2
  omega
 simp only [ep,go_sem,Nat.reduceEqDiff,reduceIte,Nat.reduceAdd,Nat.reduceLT]
 refine zh (zcD (E:=E.noPan) (n:=0) hP gp7 hT7 (.inl ⟨rfl,rfl,rfl⟩) hS7 hdis (fun h=>by have:=hTl _ h;omega) (fun h=>by have:=hSl _ h;omega) (by omega) (Nat.zero_le _) (by omega) (by omega)) ?_
 rintro r L8 ⟨rfl,c,hc7,gp8,gc8,⟨FT',FS',NT',q1,q2,q3,q4,q5,q6,q7,q8,q9,q10⟩,k8⟩
 have lp8:=zg gp8
 have gx8:=k8.get gx7 fun h=>by
  rcases h with h | h | h
  ·omega
  ·have:=hTl _ h;omega
  ·have:=hSl _ h;omega
 have gq8:=gp8
 unfold plB at gq8
 simp only [gq8,go_sem,Nat.reduceEqDiff,reduceIte,Nat.reduceAdd,Nat.reduceLeDiff]
 obtain ⟨M,hM⟩:∃M,L8.set p (plB t s (L.length+1) (.ptr c 0 0) (.ptr L6.length 0 0) L4.length 1 0)=M:=⟨_,rfl⟩
 have kM:Keep (fun u=>u=p) L8 M:=by rw [<-hM];exact Keep.set Keep.refl fun _=>rfl
 have gpM:M[p]?=some (plB t s (L.length+1) (.ptr c 0 0) (.ptr L6.length 0 0) L4.length 1 0):=by rw [<-hM,List.getElem?_set_self (zf gp8)]
 have hxp:¬L6.length=p:=by omega
 have hcp:¬c=p:=by omega
 have hTx:¬FT' L6.length:=fun h=>by
  rcases q9 _ h with h | h
  ·have:=hTl _ h;omega
  ·omega
 have hSx:¬FS' L6.length:=fun h=>by
  rcases q10 _ h with h | h
  ·have:=hSl _ h;omega
  ·omega
 have kall:Keep none' L M:=by
  have b1:Keep none' L L7:=k1.trans (k2.trans (k3.trans n37 fun _ _ h=>h) fun _ _ h=>h) fun _ _ h=>h
  have b2:Keep none' L L8:=b1.trans k8 fun t ht h=>by
   rcases h with h | h | h
   ·omega
   ·have:=hTg _ h;omega
   ·have:=hSg _ h;omega
  exact b2.trans kM fun t ht h=>by omega
 refine ⟨p,t,s,L.length+1,c,L6.length,L4.length,FT',FS',NT',300,KV.put [] [108,101,97,115,101,47,49] (strOf (Zo 4 (0+1))),rfl,?_⟩
 show z5h (L8.set p (plB t s (L.length+1) (.ptr c 0 0) (.ptr L6.length 0 0) L4.length 1 0)) p t s (L.length+1) c L6.length L4.length 1 0 FT' FS' NT' 300 _ _/\_
 refine ⟨?_,by omega,by omega,?_,fun u hu=>?_,fun u hu=>?_,by omega,by omega,?_⟩
 ·rw [hM]
  exact ⟨gpM,kM.get gx8 hxp,kM.get gc8 hcp,q2.keep kM fun u h1 h2=>q7 (h2▸h1),.inr ⟨by rw [KV.get_put,if_pos rfl],by decide,by decide,by decide⟩,q3.keep kM fun u h1 h2=>q8 (h2▸h1),q4,⟨q7,hTx,q5⟩,⟨q8,hSx,q6⟩⟩
 ·exact KV.put_len _ _ _
 ·rcases q9 u hu with h | h
  ·have:=hTg u h;omega
  ·omega
 ·rcases q10 u hu with h | h
  ·have:=hSg u h;omega
  ·omega
 ·show Keep none' L (L8.set p (plB t s (L.length+1) (.ptr c 0 0) (.ptr L6.length 0 0) L4.length 1 0))
  rw [hM];exact kall
end
end Go.X.TryzW
end
section
open Go Go.X Go.Proofs
set_option maxRecDepth 100000
set_option maxHeartbeats 4000000
namespace Go.X.TryzW
section
variable {E:Env} {ρ:Rho} {L:List Blk} {K:IV->List Blk->Prop}
theorem zt.sorted {s N:Nat} {F:Nat->Prop} {fence:Int} {d:KV} (h:zt L s F N fence d):d.sorted:=by
 obtain ⟨lg,m,FL,FK,keys,sz,cm,_,_,_,_,_,_,_,h,_⟩:=h
 exact h
def st0:StV:=⟨[],faa,[],[],0,[],0⟩
theorem z8F:st0.ok:=⟨by decide,by decide,by decide,by decide,by decide,by decide,by decide⟩
theorem z7y:st0.bytes.length<=65000:=by
 have t1:=zW [] (by decide)
 have t2:=zW faa (by decide)
 have t3:faa.length=3:=rfl
 have n0:(numR 0).length<=8:=by have:=zF 0;have:=Za (n:=0) (k:=7) (by omega);omega
 simp only [StV.bytes,st0,lla,List.flatMap_cons,List.flatMap_nil,lln] at *
 omega
def MI (d:KV) (m:Nat->Nat) (kn:Option StV):Prop:=d.sorted/\(∀k,k<3->WF d (yC k) (m k))/\Y2 d kn/\(kn.getD YH).ev=0/\d.list [101,47,48,48,48,47]=[]/\∀p∈d,p.1.length<=1000
def upd (m:Nat->Nat) (k v:Nat):Nat->Nat:=fun j=>if j=k then v else m j
theorem z7o {j k:Nat} (hj:j<3) (hk:k<3) (h:yC j=yC k):j=k:=by
 match j,hj,k,hk with
 | 0,_,0,_ | 1,_,1,_ | 2,_,2,_=>rfl
 | 0,_,1,_ | 0,_,2,_ | 1,_,0,_ | 1,_,2,_ | 2,_,0,_ | 2,_,1,_=>exact absurd h (by decide)
theorem Y2.put {d:KV} {kn:Option StV} (hs:d.sorted) (h:Y2 d kn) {k v:List UInt8} (h1:(!Op.bytesLess k [110,47]&&Op.bytesLess k [110,48])=false) (h2:¬[115,47,48,48,48]=k):Y2 (d.put k v) kn:=by
 have e1:(d.put k v).scan [110,47] [110,48]=d.scan [110,47] [110,48]:=by rw [KV.scan_put hs (by decide),h1];rfl
 cases kn with
 | none=>
  show (d.put k v).scan [110,47] [110,48]=[]
  rw [e1];exact h
 | some s=>
  refine ⟨by rw [e1];exact h.1,?_,h.2.2⟩
  rw [KV.get_put,if_neg h2];exact h.2.1
theorem WF.put {d:KV} {k k' v:List UInt8} {n:Nat} (h:WF d k n) (hne:¬k=k'):WF (d.put k' v) k n:=by
 unfold WF
 rw [KV.get_put,if_neg hne]
 exact h
theorem WF.self {d:KV} {k:List UInt8} {n:Nat} (hn:n<=4503599627370496):WF (d.put k (strOf (numR n))) k n:=by
 unfold WF
 rw [KV.get_put,if_pos rfl]
 exact ⟨.inr rfl,hn⟩
theorem z1q {d:KV} (hs:d.sorted) {p k v:List UInt8} (h:d.list p=[]) (hp:pfx k p=false):(d.put k v).list p=[]:=by
 rw [KV.list_put hs,hp];exact h
theorem z4y {d:KV} {k v:List UInt8} (h:∀p∈d,p.1.length<=1000) (hk:k.length<=1000):∀p∈d.put k v,p.1.length<=1000:=by
 intro p hp
 rcases KV.mem_put _ _ _ _ hp with rfl | hp
 ·exact hk
 ·exact h p hp
theorem MI.mark {d:KV} {m:Nat->Nat} {kn:Option StV} (h:MI d m kn) {k n:Nat} (hk:k<3) (hn:n<=4503599627370496):MI (d.put (yC k) (strOf (numR n))) (upd m k n) kn:=by
 obtain ⟨h1,h2,h3,h4,h5,h6⟩:=h
 refine ⟨KV.sorted_put _ _ _ h1,fun j hj=>?_,?_,h4,?_,z4y h6 (by exact Nat.le_of_ble_eq_true rfl)⟩
 ·unfold upd
  by_cases hjk:j=k
  ·subst hjk
   rw [if_pos rfl]
   exact WF.self hn
  ·rw [if_neg hjk]
   exact (h2 j hj).put fun h=>hjk (z7o hj hk h)
 ·match k,hk with
  | 0,_ | 1,_ | 2,_=>exact h3.put h1 (by decide) (by decide)
 ·match k,hk with
  | 0,_ | 1,_ | 2,_=>exact z1q h1 h5 (by decide)
theorem MI.ops {d:KV} {m:Nat->Nat} {kn:Option StV} (h:MI d m kn) {src seq:Nat} (hk:src<3) (hn:seq<=4503599627370496):MI (d.puts (opsA st0 src seq)) (if seq=0 then m else upd m src seq) (some st0):=by
 have h':MI ((d.put [110,47,48,48,48] faa).put [115,47,48,48,48] (strOf st0.bytes)) m (some st0):=by
  obtain ⟨h1,h2,h3,h4,h5,h6⟩:=h
  have hs1:=KV.sorted_put d [110,47,48,48,48] faa h1
  have hs2:=KV.sorted_put _ [115,47,48,48,48] (strOf st0.bytes) hs1
  refine ⟨hs2,fun j hj=>?_,⟨?_,?_,z8F⟩,rfl,z1q hs1 (z1q h1 h5 (by decide)) (by decide),z4y (z4y h6 (by decide)) (by decide)⟩
  ·match j,hj with
   | 0,hj | 1,hj | 2,hj=>exact ((h2 _ hj).put (by decide)).put (by decide)
  ·rw [KV.scan_put hs1 (by decide),if_neg (by decide),KV.scan_put h1 (by decide),if_pos (by decide)]
   cases kn with
   | none=>rw [show d.scan [110,47] [110,48]=[] from h3];rfl
   | some s=>rw [show d.scan [110,47] [110,48]=_ from h3.1];decide
  ·rw [KV.get_put,if_pos rfl]
 by_cases hz:seq=0
 ·have e:d.puts (opsA st0 src seq)=(d.put [110,47,48,48,48] faa).put [115,47,48,48,48] (strOf st0.bytes):=by simp [opsA,hz,KV.puts]
  rw [e,if_pos hz];exact h'
 ·have e:d.puts (opsA st0 src seq)=((d.put [110,47,48,48,48] faa).put [115,47,48,48,48] (strOf st0.bytes)).put (yC src) (strOf (numR seq)):=by simp [opsA,hz,KV.puts]
  rw [e,if_neg hz];exact h'.mark hk hn
end
end Go.X.TryzW
end
section
open Go Go.X Go.Proofs
set_option maxRecDepth 100000
set_option maxHeartbeats 4000000
namespace Go.X.TryzW
def q3b : XC :=(sO [oM 46 7,oK 47 .rem 46 2,oK 48 .eql 47 0] (cT 48 (.seq (.drawE [oM 49 5,oN 50 49,oF 51 4 50,oL 52 51,oM 53 5,oN 54 53,oF 55 3 54,oL 56 55,oM 57 8,oM 58 9,oC 59 7 [.t 52,.t 56,.t 57,.t 58,(.c .nsl)],oM 10 59]) (.seq (sO [oM 60 10,oK 61 .eql 60 0,oM 62 9,oM 63 8,oO 64 (.idxA 3 1 (.t 6) (.t 63)),oL 65 64,oK 66 .add 65 1,oB 67 .eql 62 66,oO 68 (.eqB true (.t 61) (.t 67)),oM 69 68,oG 70 69 false (.mov (.t 10)),oG 71 69 false (.bin .neq (.t 70) (oi 0)),oG 72 69 false (.mov (.t 71)),oG 73 72 true (.mov (.t 10)),oG 74 72 true (.bin .neq (.t 73) (oi 14)),oG 75 69 false (.pick (.t 72) (.t 74) (.c (.bool false))),oO 76 (.pick (.t 69) (.c (.bool true)) (.t 75))] (cT 76 (sO [oV 4 (.bool false)] .ret) .skip)) (sO [oM 77 10,oK 78 .eql 77 0] (cT 78 (.ops [oM 79 8,oO 80 (.idxA 3 1 (.t 6) (.t 79)),oL 81 80,oK 82 .add 81 1,oO 83 (.idxA 3 1 (.t 6) (.t 79)),oS 83 82]) .skip)))) (sO [oC 84 8 [(oi 0)],oM 11 84] (sO [oM 85 5,oN 86 85,oF 87 4 86,oL 88 87,oM 89 11,oC 90 9 [.t 88,.t 89],oY 91 90,oM 12 91] (.seq (.drawE [oM 93 5,oN 94 93,oF 95 4 94,oL 96 95,oM 97 5,oN 98 97,oF 99 3 98,oL 100 99,oM 101 11,oM 102 12,oM 103 11,oM 104 12,oO 105 (.build [(.str []),(.str []),(.str []),(.str []),(.int .i64 0),(.str []),.nsl,.nsl,(.int .i64 0)] [(1,(1,(.t 103))),(8,(1,(.t 104)))]),oM 106 8,oM 107 9,oO 108 (.build [(.str []),(.int .i64 0),.nsl,(.str []),(.str []),(.str []),(.str []),(.int .i64 0),(.str []),.nsl,.nsl,(.int .i64 0),.nsl,(.str []),(.str []),(.int .i64 0),(.int .i64 0)] [(0,(1,(.t 101))),(1,(1,(.t 102))),(3,(9,(.t 105))),(15,(1,(.t 106))),(16,(1,(.t 107)))]),oC 109 10 [.t 96,.t 100,.t 108],oM 92 109,oX 110 0 92,oX 111 1 92,oM 13 110,oM 14 111]) (sO [oM 112 9,oK 113 .eql 112 0,oM 114 113,oG 115 114 false (.mov (.t 9)),oG 116 114 false (.mov (.t 8)),oG 117 114 false (.idxA 3 1 (.t 6) (.t 116)),oG 118 114 false (.load1 (.t 117)),oG 119 114 false (.bin .add (.t 118) (oi 1)),oG 120 114 false (.bin .eql (.t 115) (.t 119)),oO 121 (.pick (.t 114) (.c (.bool true)) (.t 120)),oM 15 121] (.seq (sO [oM 122 14,oK 123 .eql 122 0,oM 124 15,oO 125 (.eqB true (.t 123) (.t 124))] (cT 125 (sO [oV 4 (.bool false)] .ret) .skip)) (sO [oM 126 14,oK 127 .eql 126 0,oM 128 127,oG 129 128 true (.mov (.t 9)),oG 130 128 true (.bin .gtr (.t 129) (oi 0)),oO 131 (.pick (.t 128) (.t 130) (.c (.bool false)))] (cT 131 (.ops [oM 132 8,oO 133 (.idxA 3 1 (.t 6) (.t 132)),oL 134 133,oK 135 .add 134 1,oO 136 (.idxA 3 1 (.t 6) (.t 132)),oS 136 135]) .skip)))))))))
def q3 : XC :=(sO [oV 4 (.bool false)] (sO [oC 17 5 [],oM 5 17] (.seq (sO [oM 18 5,oO 19 (.ex (.eqP false) [.t 18,oz])] (cT 19 (sO [oV 4 (.bool false)] .ret) .skip)) (sO [oO 6 (.alloc [(.int .i64 0),(.int .i64 0),(.int .i64 0)])] (.seq (sO [oI 7 0] (.block 0 (.loop (.seq (sO [oM 20 7,oM 21 0,oY 22 21,oB 23 .lss 20 22,oM 24 23,oG 25 24 true (.mov (.t 7)),oG 26 24 true (.mov (.t 1)),oG 27 24 true (.len (.t 26)),oG 28 24 true (.bin .lss (.t 25) (.t 27)),oO 29 (.pick (.t 24) (.t 28) (.c (.bool false))),oM 30 29,oG 31 30 true (.mov (.t 7)),oG 32 30 true (.bin .lss (.t 31) (oi 40)),oO 33 (.pick (.t 30) (.t 32) (.c (.bool false)))] (cT 33 .skip (.exit 0))) (.seq (.block 1 (sO [oM 36 0,oM 37 7,oO 38 (.idxS 1 (.t 36) (.t 37)),oL 39 38,oC 40 6 [.t 39,(oi 3)],oM 8 40] (sO [oM 41 1,oM 42 7,oO 43 (.idxS 1 (.t 41) (.t 42)),oL 44 43,oC 45 6 [.t 44,(oi 8)],oM 9 45] (.seq q3b (sO [oI 16 0] (.block 2 (.loop (.seq (sO [oM 137 16,oK 138 .lss 137 3] (cT 138 .skip (.exit 2))) (.seq (.block 3 (.seq (.drawE [oM 141 5,oN 142 141,oF 143 4 142,oL 144 143,oM 145 16,oQ 146 11 [.t 144,.t 145],oM 147 16,oO 148 (.idxA 3 1 (.t 6) (.t 147)),oL 149 148,oB 150 .neq 146 149]) (cT 150 (sO [oV 4 (.bool false)] .ret) .skip))) (.ops [oM 139 16,oK 140 .add 139 1,oM 16 140])))))))))) (.ops [oM 34 7,oK 35 .add 34 1,oM 7 35])))))) (sO [oC 151 12 [],oM 4 151] .ret))))))
section
variable {E:Env} {ρ:Rho} {L:List Blk} {K:IV->List Blk->Prop}
theorem z9h {c:XC} {ρ:Rho} {L:List Blk} {K:XE->Rho->List Blk->Prop} (M:Rho->List Blk->Prop) (h1:xrun E c ρ L (Norm M)) (h2:∀ρ L,M ρ L->K .normal ρ L):xrun E c ρ L K:=by
 refine zB c (fun e ρ L h=>?_) h1
 cases e with
 | normal=>exact h2 ρ L h
 | exit=>exact h.elim
 | goto=>exact h.elim
 | ret=>exact h.elim
@[go_sem ↓] theorem zbC {M:Rho->List Blk->Prop} {ρ:Rho} {L:List Blk}:Norm M .normal ρ L=M ρ L:=nr rfl
def wX (l:List Int):List (List IV):=l.map fun n=>[.int .i64 n]
theorem wO (l:List Int):(wX l).length=l.length:=List.length_map ..
theorem zbm (l:List Int):Rows 1 (wX l):=by
 intro r hr
 obtain ⟨n,_,rfl⟩:=List.mem_map.1 hr
 rfl
theorem z2x {l:List Int} {i:Nat} (h:i<l.length):(wX l).getD i []=[.int .i64 (l.getD i 0)]:=by
 simp [wX,List.getD,h]
def WL (m:Nat->Nat):Blk:=.cells 3 [[.int .i64 (m 0),.int .i64 (m 1),.int .i64 (m 2)]]
def z0d (p mb t s dk c x r0 i:Nat) (L:List Blk):Prop:=∃m kn FT FS NT NS dT d,z5h L p t s dk c x r0 1 0 FT FS NT NS dT d/\MI d m kn/\L[mb]?=some (WL m)/\¬FS mb/\¬mb=p/\¬mb=x/\¬mb=c/\¬FT mb/\d.length<=3*i/\NS<=1000+1000000*i/\∀k,m k<=i
theorem z0d.next {p mb t s dk c x r0 i NT NS NS':Nat} {L3 L4 L5:List Blk} {FT FS FS':Nat->Prop} {dT d d':KV} {m':Nat->Nat} {kn':Option StV} (hplay:z5h L3 p t s dk c x r0 1 0 FT FS NT NS dT d) (j1:¬FS mb) (j2:¬mb=p) (j3:¬mb=x) (j4:¬mb=c) (j5:¬FT mb) (hmb:mb<L3.length)
  (hS4:zt L4 s FS' NS' ((1:Nat):Int) d') (hG4:Grown FS FS' L3 L4) (k4:Keep FS L3 L4) (k5:Keep (fun u=>u=mb) L4 L5) (hM:L5[mb]?=some (WL m')) (hMI:MI d' m' kn') (hd:d'.length<=3*(i+1)) (hN:NS'<=1000+1000000*(i+1)) (hm':∀k,m' k<=i+1):z0d p mb t s dk c x r0 (i+1) L5:=by
 obtain ⟨gp,gx,gc,hT,hl,hS,hdis,⟨t1,t2,t3⟩,⟨s1,s2,s3⟩⟩:=hplay
 have b1:=zf gp
 have b2:=zf gx
 have b3:=zf gc
 have hTl:=hT.lt.2.2
 have j1':=hG4.out hmb j1
 refine ⟨m',kn',FT,FS',NT,NS',dT,d',⟨k5.get (k4.get gp s1) fun h=>j2 h.symm,k5.get (k4.get gx s2) fun h=>j3 h.symm,k5.get (k4.get gc s3) fun h=>j4 h.symm,(hT.keep k4 hdis).keep k5 fun u h1 h2=>j5 (h2▸h1),hl,hS4.keep k5 fun u h1 h2=>j1' (h2▸h1),fun u h1 h2=>?_,⟨t1,t2,t3⟩,⟨hG4.out b1 s1,hG4.out b2 s2,hG4.out b3 s3⟩⟩,hMI,hM,j1',j2,j3,j4,j5,hd,hN,hm'⟩
 exact hG4.out (hTl u h1) (hdis u h1) h2
theorem z3B {m:Nat->Nat} {f v:Nat} (hf:f<3):[List.take f [IV.int .i64 (m 0),IV.int .i64 (m 1),IV.int .i64 (m 2)]++[IV.int .i64 v]++List.drop f [IV.int .i64 (m 1),IV.int .i64 (m 2)]]=[[IV.int .i64 (upd m f v 0),IV.int .i64 (upd m f v 1),IV.int .i64 (upd m f v 2)]]:=by
 match f,hf with
 | 0,_ | 1,_ | 2,_=>rfl
theorem zee (hP:E.P=Tryz.prog) {p mb t s dk c x r0 i f q:Nat} {L3:List Blk} {c0 c1:IV} (h0:ρ 0=c0) (h1:ρ 1=c1) (h5:ρ 5=.ptr p 0 0) (h6:ρ 6=.ptr mb 0 0) (h7:ρ 7=.int .i64 i) (h8:ρ 8=.int .i64 f) (h9:ρ 9=.int .i64 q)
  (hI:z0d p mb t s dk c x r0 i L3) (hi:i<40) (hf3:f<3) (hq8:q<8) :
  xrun E.noPan q3b ρ L3 (Norm fun ρ' L'=>ρ' 0=c0/\ρ' 1=c1/\ρ' 5=.ptr p 0 0/\ρ' 6=.ptr mb 0 0/\ρ' 7=.int .i64 i/\z0d p mb t s dk c x r0 (i+1) L'):=by
 obtain ⟨m,kn,FT,FS,NT,NS,dT,d,hplay,hMI,gmb,j1,j2,j3,j4,j5,j6,j7,j8⟩:=hI
 obtain ⟨gp,gx,gc,hT,hl,hS,hdis,⟨t1,t2,t3⟩,⟨s1,s2,s3⟩⟩:=id hplay
 have lp:=zg gp
 have lmb:=zg gmb
 have gq:=gp
 have gmq:=gmb
 unfold plB at gq
 unfold WL at gmq
 have g0:((0:Int)<=(f:Int))=True:=eq_true (by omega)
 have g1:((f:Int)<3)=True:=eq_true (by omega)
 have g2:(f<3)=True:=eq_true hf3
 have mg:([IV.int .i64 (m 0),IV.int .i64 (m 1),IV.int .i64 (m 2)]:List IV).getD f IV.und=.int .i64 (m f):=by match f,hf3 with | 0,_ | 1,_ | 2,_=>rfl
 unfold q3b
 rcases (by rw [Int.tmod_eq_emod_of_nonneg (by omega)];omega:(i:Int).tmod 2=0\/(i:Int).tmod 2=1) with hpar | hpar
 ·simp only [h5,h7,h8,h9,hpar,gq,go_sem,Nat.reduceEqDiff,reduceIte,Nat.reduceAdd,Nat.reduceLT]
  refine ⟨by decide,?_⟩
  by_cases hqm:q=m f+1
  ·subst hqm
   refine zh (zbz (E:=E.noPan) hP gx gc hS s3 hf3 (hMI.2.1 f hf3) (by have:=j8 f;omega) (by omega) (by omega)) ?_
   rintro r L4 ⟨rfl,⟨FS',hS4,hG4⟩,k4⟩
   have gm4:=k4.get gmq j1
   have lm4:=zg gm4
   have w1:IntKind.i64.wrap ((m f:Int)+1)=((m f+1:Nat):Int):=by have:=j8 f;rw [wrap64 (by omega) (by omega)];rfl
   simp only [h0,h1,h5,h6,h7,h8,h9,gm4,g0,g1,g2,mg,w1,Nat.mul_one,Int.toNat_natCast,go_sem,Nat.reduceEqDiff,reduceIte,Nat.reduceAdd,Nat.reduceLeDiff]
   have e5:Blk.cells 3 [List.take f [IV.int .i64 (m 0),IV.int .i64 (m 1),IV.int .i64 (m 2)]++[IV.int .i64 ((m f+1:Nat):Int)]++List.drop f [IV.int .i64 (m 1),IV.int .i64 (m 2)]]=WL (upd m f (m f+1)):=congrArg (Blk.cells 3) (z3B hf3)
   rw [e5]
   refine ⟨by omega,z0d.next hplay j1 j2 j3 j4 j5 (zf gmb) hS4 hG4 k4 (Keep.set Keep.refl fun _=>rfl) (by rw [List.getElem?_set_self (zf gm4)]) (hMI.mark hf3 (by have:=j8 f;omega)) ?_ (by omega) ?_⟩
   ·have:=KV.put_len d (yC f) (strOf (numR (m f+1)));omega
   ·intro k
    unfold upd
    split
    ·have:=j8 f;omega
    ·have:=j8 k;omega
  ·refine zh (zc2 (E:=E.noPan) hP gx gc hS hf3 (hMI.2.1 f hf3) hqm) ?_
   rintro r L4 ⟨rfl,rfl⟩
   have w1:IntKind.i64.wrap ((m f:Int)+1)=((m f+1:Nat):Int):=by have:=j8 f;rw [wrap64 (by omega) (by omega)];rfl
   have fq:((q:Int)=((m f+1:Nat):Int))=False:=eq_false (by omega)
   simp only [h0,h1,h5,h6,h7,h8,h9,gmq,g0,g1,g2,mg,w1,fq,Nat.mul_one,Int.toNat_natCast,go_sem,Nat.reduceEqDiff,reduceIte,Int.reduceEq,Nat.reduceAdd]
   exact z0d.next hplay j1 j2 j3 j4 j5 (zf gmb) hS Grown.refl Keep.refl Keep.refl gmb hMI (by omega) (by omega) fun k=>by have:=j8 k;omega
 ·simp only [h7,hpar,go_sem,Nat.reduceEqDiff,reduceIte,Int.reduceEq]
  refine ⟨by decide,?_⟩
  refine zq (args':=[.int .i64 0]) rfl (Yk (E:=E.noPan) hP) rfl ?_
  simp only [h5,gq,go_sem,Nat.reduceEqDiff,reduceIte,Int.reduceEq,Nat.reduceAdd,Nat.reduceLT]
  refine zh (z4z (E:=E.noPan) hP gx hS (by omega) hMI.2.2.2.2.2 hMI.2.2.1 hMI.2.2.2.2.1) ?_
  rintro r L4 ⟨rfl,rfl⟩
  have ln:lenOf (.isl [])=some 0:=rfl
  simp only [h5,h8,h9,gq,zC ln,go_sem,Nat.reduceEqDiff,reduceIte,Int.reduceEq,Nat.reduceAdd,Nat.reduceLT,Nat.reduceLeDiff]
  show YW E.noPan 10 [.ptr x 0 0,.ptr c 0 0,.agg (updC 0 .nsl st0 .nsl [] [] f q)] _ _
  have w1:IntKind.i64.wrap ((m f:Int)+1)=((m f+1:Nat):Int):=by have:=j8 f;rw [wrap64 (by omega) (by omega)];rfl
  by_cases hqz:q=0
  ·have z1:((q:Int)=0)=True:=eq_true (by omega)
   have z2:((0:Int)<(q:Int))=False:=eq_false (by omega)
   refine zh (z5y (E:=E.noPan) (st:=st0) (kn:=kn) (ex:=0) (src:=f) (seq:=q) hP gx gc hS s3 (by omega) (by omega) hMI.2.2.1 z8F hMI.2.2.2.1 rfl (by omega) (.inl hqz) z7y (by omega)) ?_
   rintro r L5 ⟨rfl,⟨FS',hS5,hG5⟩,k5⟩
   have gm5:=k5.get gmq j1
   have lm5:=zg gm5
   have hpl:=KV.puts_len d (opsA st0 f q)
   have hol:(opsA st0 f q).length<=3:=by unfold opsA;split<;>simp
   simp only [h0,h1,h5,h6,h7,h9,z1,z2,go_sem,Nat.reduceEqDiff,reduceIte,Int.reduceEq,Nat.reduceAdd,Nat.reduceLT]
   have hMI5:=hMI.ops (src:=f) (seq:=q) hf3 (by omega)
   rw [if_pos hqz] at hMI5
   exact z0d.next hplay j1 j2 j3 j4 j5 (zf gmb) hS5 hG5 k5 Keep.refl gm5 hMI5 (by omega) (by omega) fun k=>by have:=j8 k;omega
  ·have z1:((q:Int)=0)=False:=eq_false (by omega)
   have z2:((0:Int)<(q:Int))=True:=eq_true (by omega)
   by_cases hqm:q=m f+1
   ·have z3:((q:Int)=((m f+1:Nat):Int))=True:=eq_true (by omega)
    refine zh (z5y (E:=E.noPan) (st:=st0) (kn:=kn) (ex:=0) (src:=f) (seq:=q) hP gx gc hS s3 (by omega) (by omega) hMI.2.2.1 z8F hMI.2.2.2.1 rfl (by omega) (.inr ⟨hf3,m f,hMI.2.1 f hf3,hqm⟩) z7y (by omega)) ?_
    rintro r L5 ⟨rfl,⟨FS',hS5,hG5⟩,k5⟩
    have gm5:=k5.get gmq j1
    have lm5:=zg gm5
    have hpl:=KV.puts_len d (opsA st0 f q)
    have hol:(opsA st0 f q).length<=3:=by unfold opsA;split<;>simp
    simp only [h0,h1,h5,h6,h7,h8,h9,gm5,z1,z2,z3,g0,g1,g2,mg,w1,Nat.mul_one,Int.toNat_natCast,go_sem,Nat.reduceEqDiff,reduceIte,Int.reduceEq,Nat.reduceAdd,Nat.reduceLT,Nat.reduceLeDiff]
    have hMI5:=hMI.ops (src:=f) (seq:=q) hf3 (by omega)
    rw [if_neg hqz,hqm] at hMI5
    have e5:Blk.cells 3 [List.take f [IV.int .i64 (m 0),IV.int .i64 (m 1),IV.int .i64 (m 2)]++[IV.int .i64 ((m f+1:Nat):Int)]++List.drop f [IV.int .i64 (m 1),IV.int .i64 (m 2)]]=WL (upd m f (m f+1)):=congrArg (Blk.cells 3) (z3B hf3)
    rw [e5]
    rw [hqm] at hpl hol hS5
    refine ⟨by omega,z0d.next hplay j1 j2 j3 j4 j5 (zf gmb) hS5 hG5 k5 (Keep.set Keep.refl fun _=>rfl) (by rw [List.getElem?_set_self (zf gm5)]) hMI5 (by omega) (by omega) ?_⟩
    intro k
    unfold upd
    split
    ·have:=j8 f;omega
    ·have:=j8 k;omega
   ·have z3:((q:Int)=((m f+1:Nat):Int))=False:=eq_false (by omega)
    refine zh (z7z (E:=E.noPan) (st:=st0) (kn:=kn) (ex:=0) (src:=f) (seq:=q) hP gx gc hS (by omega) hMI.2.2.1 hMI.2.2.2.1 rfl (by omega) hf3 (hMI.2.1 f hf3) (by omega) hqm) ?_
    rintro r L5 ⟨rfl,rfl⟩
    simp only [h0,h1,h5,h6,h7,h8,h9,gmq,z1,z3,g0,g1,g2,mg,w1,Nat.mul_one,Int.toNat_natCast,go_sem,Nat.reduceEqDiff,reduceIte,Int.reduceEq,Nat.reduceAdd,Nat.reduceLT]
    exact z0d.next hplay j1 j2 j3 j4 j5 (zf gmb) hS Grown.refl Keep.refl Keep.refl gmb hMI (by omega) (by omega) fun k=>by have:=j8 k;omega
theorem za3 (hP:E.P=Tryz.prog) (hw:∀{L:List Blk},XT E.noPan 12 [] L fun r L'=>r=.bool true/\Keep none' L L') (fr sq:List Int) (hfr:fr.length<=9223372036854775807) (hsq:sq.length<=9223372036854775807):zI E 3 [.isl (wX fr),.isl (wX sq)] (.bool true):=by
 refine Z7 (R:=fun r L'=>r=.bool true/\Keep none' [] L') ?_ ?_
 rotate_left
 ·rintro r L' ⟨rfl,hk⟩
  exact ⟨hk,_,rfl,rfl⟩
 refine xt2 (fn:=Tryz.f3) (rs:=[.tmp 4]) (c:=q3) hP fun ρ h0 h1=>?_
 unfold q3
 have ep:∀u:Nat,WG (.ptr u 0 0) (.raw (.pointer none))=some false:=fun _=>rfl
 simp only [go_sem]
 refine zh (z2S (E:=E.noPan) hP) ?_
 rintro r L1 ⟨p,t,s,dk,c,x,r0,FT,FS,NT,NS,dT,rfl,hplay,hNT,hNS,hdT,_,_,_,_,k1⟩
 simp only [ep,go_sem,Nat.reduceEqDiff,reduceIte,Nat.reduceAdd]
 obtain ⟨mb,hmb⟩:∃mb,L1.length=mb:=⟨_,rfl⟩
 rw [hmb]
 have hI:z0d p mb t s dk c x r0 0 (L1++[WL fun _=>0]):=by
  have kA:Keep none' L1 (L1++[WL fun _=>0]):=Keep.app Keep.refl
  obtain ⟨g1,g2,g3,g4,g5,g6,g7,g8,g9⟩:=hplay
  have hTl:=g4.lt.2.2
  have hSl:=g6.lt.2.2
  have b1:=zf g1
  have b2:=zf g2
  have b3:=zf g3
  refine ⟨fun _=>0,none,FT,FS,NT,NS,dT,[],⟨kA.get g1 fun h=>h,kA.get g2 fun h=>h,kA.get g3 fun h=>h,g4.keep kA fun _ _ h=>h,g5,g6.keep kA fun _ _ h=>h,g7,g8,g9⟩,⟨List.Pairwise.nil,fun k hk=>⟨.inl ⟨rfl,rfl⟩,Nat.zero_le _⟩,rfl,rfl,rfl,fun p hp=>nomatch hp⟩,by rw [<-hmb];simp,fun h=>by have:=hSl _ h;omega,by omega,by omega,by omega,fun h=>by have:=hTl _ h;omega,by simp,by omega,fun _=>Nat.le_refl _⟩
 have eM:Blk.cells 3 [[IV.int .i64 0,IV.int .i64 0,IV.int .i64 0]]=WL fun _=>0:=rfl
 rw [eM]
 generalize L1++[WL fun _=>0]=L2 at *
 refine zT (fun n ρ L3=>∃i:Nat,i<=40/\n=40 - i/\ρ 0=.isl (wX fr)/\ρ 1=.isl (wX sq)/\ρ 5=.ptr p 0 0/\ρ 6=.ptr mb 0 0/\ρ 7=.int .i64 i/\z0d p mb t s dk c x r0 i L3)
  ⟨0,by omega,rfl,by simp only [h0,go_sem,Nat.reduceEqDiff,reduceIte],by simp only [h1,go_sem,Nat.reduceEqDiff,reduceIte],by simp only [go_sem,Nat.reduceEqDiff,reduceIte],by simp only [go_sem,Nat.reduceEqDiff,reduceIte],by simp only [go_sem,Nat.reduceEqDiff,reduceIte]<;>rfl,hI⟩ ?_
 clear h0 h1 ρ hI hplay
 rintro n ρ L3 ⟨i,hi,rfl,h0,h1,h5,h6,h7,hI⟩
 have lo0:lenOf (.isl (wX fr))=some fr.length:=by rw [<-wO];rfl
 have lo1:lenOf (.isl (wX sq))=some sq.length:=by rw [<-wO];rfl
 by_cases hc:i<fr.length/\i<sq.length/\i<40
 ·obtain ⟨c1,c2,c3⟩:=hc
  have f1:((i:Int)<(fr.length:Int))=True:=eq_true (by omega)
  have f2:((i:Int)<(sq.length:Int))=True:=eq_true (by omega)
  have f3:((i:Int)<40)=True:=eq_true (by omega)
  have e0:((0:Int)<=(i:Int))=True:=eq_true (by omega)
  have n1:(i<fr.length)=True:=eq_true c1
  have n2:(i<sq.length)=True:=eq_true c2
  have gd1:=z2x c1
  have gd2:=z2x c2
  obtain ⟨a,ha⟩:∃a,fr.getD i 0=a:=⟨_,rfl⟩
  obtain ⟨b,hb⟩:∃b,sq.getD i 0=b:=⟨_,rfl⟩
  rw [ha] at gd1
  rw [hb] at gd2
  have lr:∀v:Int,[IV.int .i64 v].length=1:=fun _=>rfl
  have lr0:∀v:Int,[IV.int .i64 v].getD 0 IV.und=.int .i64 v:=fun _=>rfl
  have hR0:Rows 1 (wX fr)=True:=eq_true (zbm fr)
  have hR1:Rows 1 (wX sq)=True:=eq_true (zbm sq)
  simp only [h0,h1,h7,zC lo0,zC lo1,f1,f2,f3,e0,n1,gd1,lr,lr0,hR0,wO,Int.toNat_natCast,go_sem,Nat.reduceEqDiff,reduceIte]
  obtain ⟨f,hf3,ef⟩:∃f:Nat,f<3/\a%3=(f:Int):=⟨(a%3).toNat,by omega,by omega⟩
  obtain ⟨q,hq8,eq⟩:∃q:Nat,q<8/\b%8=(q:Int):=⟨(b%8).toNat,by omega,by omega⟩
  have hwa:=z09 (E:=E.noPan) hP a 3 (by decide) (by decide)
  have hwb:=z09 (E:=E.noPan) hP b 8 (by decide) (by decide)
  rw [ef] at hwa
  rw [eq] at hwb
  refine zq (args':=[.int .i64 a,.int .i64 3]) rfl hwa rfl ?_
  simp only [h1,h7,e0,n2,gd1,gd2,lr,lr0,hR1,wO,f1,f2,Int.toNat_natCast,go_sem,Nat.reduceEqDiff,reduceIte]
  refine zq (args':=[.int .i64 b,.int .i64 8]) rfl hwb rfl ?_
  simp only [go_sem,Nat.reduceEqDiff,reduceIte]
  refine z9h _ (zee hP (c0:=.isl (wX fr)) (c1:=.isl (wX sq)) (i:=i) (f:=f) (q:=q) (by simp only [h0,go_sem,Nat.reduceEqDiff,reduceIte]) (by simp only [h1,go_sem,Nat.reduceEqDiff,reduceIte]) (by simp only [h5,go_sem,Nat.reduceEqDiff,reduceIte]) (by simp only [h6,go_sem,Nat.reduceEqDiff,reduceIte]) (by simp only [h7,go_sem,Nat.reduceEqDiff,reduceIte]) (by simp only [go_sem,Nat.reduceEqDiff,reduceIte]) (by simp only [go_sem,Nat.reduceEqDiff,reduceIte]) hI c3 hf3 hq8) (fun ρ2 M h=>?_)
  clear h0 h1 h5 h6 h7 hI ρ
  obtain ⟨h0,h1,h5,h6,h7,hI⟩:=h
  simp only [go_sem]
  refine zT (fun n ρ L=>∃k:Nat,k<=3/\n=3 - k/\L=M/\ρ 0=.isl (wX fr)/\ρ 1=.isl (wX sq)/\ρ 5=.ptr p 0 0/\ρ 6=.ptr mb 0 0/\ρ 7=.int .i64 i/\ρ 16=.int .i64 k)
   ⟨0,by omega,rfl,rfl,by simp only [h0,go_sem,Nat.reduceEqDiff,reduceIte],by simp only [h1,go_sem,Nat.reduceEqDiff,reduceIte],by simp only [h5,go_sem,Nat.reduceEqDiff,reduceIte],by simp only [h6,go_sem,Nat.reduceEqDiff,reduceIte],by simp only [h7,go_sem,Nat.reduceEqDiff,reduceIte],by simp only [go_sem,reduceIte]<;>rfl⟩ ?_
  clear h0 h1 h5 h6 h7 ρ2
  rintro n ρ M ⟨k,hk,rfl,rfl,h0,h1,h5,h6,h7,h16⟩
  by_cases hk3:k<3
  ·obtain ⟨m,kn,FT,FS,NT,NS,dT,d,hplay,hMI,gmb,j1,j2,j3,j4,j5,j6,j7,j8⟩:=id hI
   obtain ⟨gp,gx,gc,hT,hl,hS,hdis,⟨t1,t2,t3⟩,⟨s1,s2,s3⟩⟩:=id hplay
   have lp:=zg gp
   have lmb:=zg gmb
   have gq:=gp
   have gmq:=gmb
   unfold plB at gq
   unfold WL at gmq
   have k0:((0:Int)<=(k:Int))=True:=eq_true (by omega)
   have k1:((k:Int)<3)=True:=eq_true (by omega)
   have k2:(k<3)=True:=eq_true hk3
   have mg:([IV.int .i64 (m 0),IV.int .i64 (m 1),IV.int .i64 (m 2)]:List IV).getD k IV.und=.int .i64 (m k):=by match k,hk3 with | 0,_ | 1,_ | 2,_=>rfl
   have w1:IntKind.i64.wrap ((k:Int)+1)=((k+1:Nat):Int):=by rw [wrap64 (by omega) (by omega)];rfl
   simp only [h5,h16,k1,gq,go_sem,Nat.reduceEqDiff,reduceIte,Nat.reduceAdd,Nat.reduceLT]
   refine yH (E:=E.noPan) (.int .i64 (m k)) rfl (fun L2 ha=>JH (by exact hP) ((yG ha).get gx fun h=>h) (hS.keep (yG ha) fun _ _ h=>h) hk3 (hMI.2.1 k hk3)) ?_
   simp only [h0,h1,h5,h6,h7,h16,k0,k1,k2,gmq,mg,w1,Nat.mul_one,Int.toNat_natCast,go_sem,Nat.reduceEqDiff,reduceIte,Nat.reduceAdd]
   exact ⟨3 - (k+1),by omega,k+1,by omega,rfl,rfl⟩
  ·have k1:((k:Int)<3)=False:=eq_false (by omega)
   have w1:IntKind.i64.wrap ((i:Int)+1)=((i+1:Nat):Int):=by rw [wrap64 (by omega) (by omega)];rfl
   simp only [h0,h1,h5,h6,h7,h16,k1,w1,go_sem,Nat.reduceEqDiff,reduceIte]
   exact ⟨40 - (i+1),by omega,i+1,by omega,rfl,rfl,hI⟩
 ·have hk3:Keep none' [] L3:=⟨Nat.zero_le _,fun t ht=>nomatch ht⟩
  by_cases c1:i<fr.length
  ·have f1:((i:Int)<(fr.length:Int))=True:=eq_true (by omega)
   by_cases c2:i<sq.length
   ·have f2:((i:Int)<(sq.length:Int))=True:=eq_true (by omega)
    have f3:((i:Int)<40)=False:=eq_false (by omega)
    simp only [h0,h1,h7,zC lo0,zC lo1,f1,f2,f3,go_sem,Nat.reduceEqDiff,reduceIte]
    refine zh hw ?_
    rintro r L4 ⟨rfl,k4⟩
    simp only [go_sem,Nat.reduceEqDiff,reduceIte]
    exact hk3.trans k4 fun _ _ h=>h
   ·have f2:((i:Int)<(sq.length:Int))=False:=eq_false (by omega)
    simp only [h0,h1,h7,zC lo0,zC lo1,f1,f2,go_sem,Nat.reduceEqDiff,reduceIte]
    refine zh hw ?_
    rintro r L4 ⟨rfl,k4⟩
    simp only [go_sem,Nat.reduceEqDiff,reduceIte]
    exact hk3.trans k4 fun _ _ h=>h
  ·have f1:((i:Int)<(fr.length:Int))=False:=eq_false (by omega)
   simp only [h0,h7,zC lo0,f1,go_sem,Nat.reduceEqDiff,reduceIte]
   refine zh hw ?_
   rintro r L4 ⟨rfl,k4⟩
   simp only [go_sem,Nat.reduceEqDiff,reduceIte]
   exact hk3.trans k4 fun _ _ h=>h
end
end Go.X.TryzW
end
section
open Go Go.X Go.Proofs
set_option maxRecDepth 100000
set_option maxHeartbeats 4000000
namespace Go.X.TryzW
def q12 : XC :=(sO [oV 0 (.bool false)] (sO [oC 7 5 [],oM 1 7] (.seq (sO [oM 8 1,oO 9 (.ex (.eqP false) [.t 8,oz])] (cT 9 (sO [oV 0 (.bool false)] .ret) .skip)) (sO [oC 10 8 [(oi 0)],oO 11 (.build [(.int .i64 0),(.str []),(.str []),(.int .i64 0)] [(0,(1,(oi 1)))]),oO 12 (.bslice 4 [(.int .i64 0),(.str []),(.str []),(.int .i64 0)] 1 [(0,(.t 11))]),oC 13 8 [(oi 0)],oO 14 (.build [(.str []),(.str []),(.str []),(.str []),(.int .i64 0),(.str []),.nsl,.nsl,(.int .i64 0)] [(1,(1,(.t 13))),(8,(1,(oi 1)))]),oC 15 8 [(oi 0)],oO 16 (.build [(.int .i64 0),(.raw (.complex .f64 0 0)),(.str []),(.str []),(.int .i64 0),(.int .i64 0),(.int .i64 0),(.str []),(.str []),(.str []),(.str []),(.str []),(.int .i64 0)] [(0,(1,(oi 1))),(2,(1,(.t 15))),(3,(1,(.c (.str [97])))),(4,(1,(oi 1)))]),oO 17 (.bslice 13 [(.int .i64 0),(.raw (.complex .f64 0 0)),(.str []),(.str []),(.int .i64 0),(.int .i64 0),(.int .i64 0),(.str []),(.str []),(.str []),(.str []),(.str []),(.int .i64 0)] 1 [(0,(.t 16))]),oO 18 (.build [(.str []),(.int .i64 0),.nsl,(.str []),(.str []),(.str []),(.str []),(.int .i64 0),(.str []),.nsl,.nsl,(.int .i64 0),.nsl,(.str []),(.str []),(.int .i64 0),(.int .i64 0)] [(0,(1,(.t 10))),(2,(1,(.t 12))),(3,(9,(.t 14))),(12,(1,(.t 17))),(13,(1,(.c (.str [114])))),(14,(1,(.c (.str [121,101,115]))))]),oO 2 (.alloc [(.str []),(.int .i64 0),.nsl,(.str []),(.str []),(.str []),(.str []),(.int .i64 0),(.str []),.nsl,.nsl,(.int .i64 0),.nsl,(.str []),(.str []),(.int .i64 0),(.int .i64 0)]),oU (.store 17 (.t 2) (.t 18))] (.seq (.drawE [oM 20 1,oN 21 20,oF 22 4 21,oL 23 22,oM 24 1,oN 25 24,oF 26 3 25,oL 27 26,oO 28 (.loadN 17 (.t 2)),oC 29 10 [.t 23,.t 27,.t 28],oM 19 29,oX 30 0 19,oX 31 1 19,oM 3 30,oM 4 31]) (.seq (.drawE [oM 33 1,oN 34 33,oF 35 4 34,oL 36 35,oQ 37 8 [(oi 0)],oO 38 (.call (.f 15) [.t 36,.t 37,(.c (.str [114]))]),oM 32 38,oX 39 0 32,oX 40 1 32,oM 5 39,oM 6 40]) (sO [oM 41 4,oK 42 .eql 41 0,oM 43 42,oG 44 43 true (.mov (.t 3)),oG 45 43 true (.len (.t 44)),oG 46 43 true (.bin .eql (.t 45) (oi 1)),oO 47 (.pick (.t 43) (.t 46) (.c (.bool false))),oM 48 47,oG 49 48 true (.mov (.t 3)),oG 50 48 true (.idxS 13 (.t 49) (oi 0)),oG 51 48 true (.fldA 1 (.t 50)),oG 52 48 true (.load1 (.t 51)),oG 53 48 true (.bin .eql (.t 52) (.c (.raw (.complex .f64 4607182418800017408 4607182418800017408)))),oO 54 (.pick (.t 48) (.t 53) (.c (.bool false))),oM 55 54,oG 56 55 true (.mov (.t 6)),oO 57 (.pick (.t 55) (.t 56) (.c (.bool false))),oM 58 57,oG 59 58 true (.mov (.t 5)),oG 60 58 true (.bin .eql (.t 59) (.c (.str [121,101,115]))),oO 61 (.pick (.t 58) (.t 60) (.c (.bool false))),oM 62 61,oG 63 62 true (.mov (.t 1)),oG 64 62 true (.nilck (.t 63)),oG 65 62 true (.fldA 4 (.t 64)),oG 66 62 true (.load1 (.t 65)),oG 67 62 true (.call (.f 50) [.t 66]),oG 68 62 true (.len (.t 67)),oG 69 62 true (.bin .eql (.t 68) (oi 1)),oO 70 (.pick (.t 62) (.t 69) (.c (.bool false))),oM 0 70] .ret)))))))
section
variable {E:Env} {ρ:Rho} {L:List Blk} {K:IV->List Blk->Prop}
def st1:StV:=⟨[],faa,[],[],0,[],1⟩
def e1:EvV:=⟨1,[],[],0⟩
def tk0:Zc:=⟨1,0,0,0,0,faa,[97],1,0⟩
theorem zbr:st1.ok:=⟨by decide,by decide,by decide,by decide,by decide,by decide,by decide⟩
theorem zhz:e1.ok:=⟨by decide,by decide,by decide,by decide,by decide,by decide⟩
theorem id00:IdOk 0 0 0 0:=⟨by decide,by decide,fun E hP=>z2p hP⟩
theorem id11:IdOk 1 1 (fl 1) (fl 1):=⟨by decide,by decide,fun E hP=>by rw [z9l];exact z3z hP⟩
theorem zbe:tk0.ok:=⟨⟨by decide,by decide⟩,id00,by decide,by decide,by decide,by decide⟩
theorem z9k:(tk0.withId 1 1).ok:=⟨⟨by decide,by decide⟩,id11,by decide,by decide,by decide,by decide⟩
theorem z5M:e1.bytes.length+st1.bytes.length+tk0.bytes.length<=65000/\(tk0.withId 1 1).bytes.length<=65000:=by
 have l1:=zbe.len
 have l2:=z9k.len
 have h1:tk0.flow.length=3:=rfl
 have h2:tk0.node.length=1:=rfl
 have h3:(tk0.withId 1 1).flow.length=3:=rfl
 have h4:(tk0.withId 1 1).node.length=1:=rfl
 have t1:=zW [] (by decide)
 have t2:=zW faa (by decide)
 have t3:faa.length=3:=rfl
 have n0:=zZ (n:=0) (by omega)
 have n1:=zZ (n:=1) (by omega)
 have hs:sgnN 0=0:=rfl
 have l3:e1.bytes.length<=100:=by simp only [EvV.bytes,e1,hs,lla,List.flatMap_cons,List.flatMap_nil,lln] at *;omega
 have l4:st1.bytes.length<=1000:=by simp only [StV.bytes,st1,lla,List.flatMap_cons,List.flatMap_nil,lln] at *;omega
 omega
def opsW:List OpV:=opsB 0 e1 st1 (tk0.withId 1 1) [114] [121,101,115]
def dW:KV:=KV.puts [] opsW
theorem z7i:dW=[(dpK 1 1,strOf (tk0.withId 1 1).bytes),(evK 0,strOf e1.bytes),([110,47,48,48,48],faa),(rqK 0,strOf (opsR [⟨[114],[121,101,115],false⟩])),([115,47,48,48,48],strOf st1.bytes)]:=by
 rfl
theorem zc3:Y2 dW (some st1):=by
 rw [z7i]
 exact ⟨rfl,rfl,zbr⟩
theorem zdB:dW.list [114,47,48,48,48,47]=rqKV [⟨rqK 0,[114],[121,101,115]⟩]:=by rw [z7i];rfl
theorem zbW:dW.list [100,47]=tkKV [(dpK 1 1,tk0.withId 1 1)]:=by rw [z7i];rfl
theorem z94:∀p∈dW,p.1.length<=1000:=by
 rw [z7i]
 intro p hp
 simp only [List.mem_cons,List.not_mem_nil,or_false] at hp
 rcases hp with rfl | rfl | rfl | rfl | rfl
 ·show (dpK 1 1).length<=1000;decide
 ·show (evK 0).length<=1000;decide
 ·decide
 ·show (rqK 0).length<=1000;decide
 ·show ([115,47,48,48,48]:List UInt8).length<=1000;decide
theorem zbd:dW.length=5:=by rw [z7i];rfl
theorem zbS {u v:Value} {r:IV} {KV:IV->List Blk->Prop} (h:WO .eql u v=some r):xop E (.bin .eql (.c (.raw u)) (.c (.raw v))) cev L KV=KV r L:=by
 simp only [xop,xbin,zU,h,sij,exists_eq_left']
theorem zb0 (hP:E.P=Tryz.prog) (hg6:E.gl 6=some dbT):XT E 12 [] L fun r L'=>r=.bool true/\Keep none' L L':=by
 refine xtA (fn:=Tryz.f12) (rs:=[.tmp 0]) (c:=q12) hP rfl (by kernel_rfl) (by decide) (Nat.le_of_ble_eq_true rfl) fun ρ e=>?_
 clear e
 unfold q12
 have ep:∀u:Nat,WG (.ptr u 0 0) (.raw (.pointer none))=some false:=fun _=>rfl
 simp only [go_sem]
 refine zh (z2S (E:=E.noPan) hP) ?_
 rintro r L1 ⟨p,t,s,dk,c,x,r0,FT,FS,NT,NS,dT,rfl,hplay,hNT,hNS,hdT,hFT,hFS,hpl,hcl,k1⟩
 obtain ⟨gp,gx,gc,hT,hl,hS,hdis,⟨t1,t2,t3⟩,⟨s1,s2,s3⟩⟩:=hplay
 simp only [ep,go_sem,Nat.reduceEqDiff,reduceIte]
 refine zq (args':=[.int .i64 0]) rfl (Yk (E:=E.noPan) hP) rfl ?_
 simp only [go_sem,Nat.reduceEqDiff,reduceIte,Nat.reduceAdd,Nat.reduceLeDiff]
 refine zq (args':=[.int .i64 0]) rfl (Yk (E:=E.noPan) hP) rfl ?_
 simp only [go_sem,Nat.reduceEqDiff,reduceIte,Nat.reduceAdd,Nat.reduceLeDiff]
 refine zq (args':=[.int .i64 0]) rfl (Yk (E:=E.noPan) hP) rfl ?_
 simp only [go_sem,Nat.reduceEqDiff,reduceIte,Nat.reduceAdd,Nat.reduceLeDiff]
 obtain ⟨ge,hge⟩:∃ge,L1.length=ge:=⟨_,rfl⟩
 obtain ⟨gt,hgt⟩:∃gt,(L1++[Blk.cells 4 [[IV.int .i64 1,IV.str [],IV.str [],IV.int .i64 0]]]).length=gt:=⟨_,rfl⟩
 obtain ⟨ub,hub⟩:∃ub,(L1++[Blk.cells 4 [[IV.int .i64 1,IV.str [],IV.str [],IV.int .i64 0]]]++[Blk.cells 13 [[IV.int .i64 1,IV.raw (Value.complex FloatKind.f64 0 0),IV.str [102,97,97],IV.str [97],IV.int .i64 1,IV.int .i64 0,IV.int .i64 0,IV.str [],IV.str [],IV.str [],IV.str [],IV.str [],IV.int .i64 0]]]).length=ub:=⟨_,rfl⟩
 rw [hge,hgt,hub]
 obtain ⟨LW,hLW⟩:∃LW,L1++[Blk.cells 4 [[IV.int .i64 1,IV.str [],IV.str [],IV.int .i64 0]]]++[Blk.cells 13 [[IV.int .i64 1,IV.raw (Value.complex FloatKind.f64 0 0),IV.str [102,97,97],IV.str [97],IV.int .i64 1,IV.int .i64 0,IV.int .i64 0,IV.str [],IV.str [],IV.str [],IV.str [],IV.str [],IV.int .i64 0]]]++
    [Blk.cells 17 [[IV.str [102,97,97],IV.int .i64 0,IV.sl ge 0 1 1,IV.str [],IV.str [102,97,97],IV.str [],IV.str [],IV.int .i64 0,IV.str [],IV.nsl,IV.nsl,IV.int .i64 1,IV.sl gt 0 1 1,IV.str [114],IV.str [121,101,115],IV.int .i64 0,IV.int .i64 0]]]=LW:=⟨_,rfl⟩
 have kW:Keep none' L1 LW:=by rw [<-hLW];exact Keep.app (Keep.app (Keep.app Keep.refl))
 have ngt:gt=ge+1:=by rw [<-hgt,<-hge];simp
 have nub:ub=ge+2:=by rw [<-hub,<-hge];simp
 have wge:LW[ge]?=some (.cells 4 [e1.cells]):=by rw [<-hLW,<-hge];simp [];rfl
 have wgt:LW[gt]?=some (.cells 13 [tk0.cells]):=by rw [<-hLW,ngt,<-hge];simp [];rfl
 have wub:LW[ub]?=some (.cells 17 [updC 0 (.sl ge 0 1 1) st1 (.sl gt 0 1 1) [114] [121,101,115] 0 0]):=by rw [<-hLW,nub,<-hge];simp [];rfl
 rw [hLW]
 have gpW:=kW.get gp fun h=>h
 have lpW:=zg gpW
 have lub:=zg wub
 unfold plB at gpW
 have hul:(updC 0 (.sl ge 0 1 1) st1 (.sl gt 0 1 1) [114] [121,101,115] 0 0).length=17:=rfl
 have hut:(updC 0 (.sl ge 0 1 1) st1 (.sl gt 0 1 1) [114] [121,101,115] 0 0).take 17=updC 0 (.sl ge 0 1 1) st1 (.sl gt 0 1 1) [114] [121,101,115] 0 0:=rfl
 simp only [gpW,wub,hul,hut,go_sem,Nat.reduceEqDiff,reduceIte,Nat.reduceAdd,Nat.reduceLT]
 have gc1:L1[c]?=some (ctxB t s 1 (fl 1) (fl 0) true):=by rw [z8j];exact gc
 refine zh (zb5 (E:=E.noPan) (kn:=none) (e:=e1) (st:=st1) (tk:=tk0) (n:=1) (m:=0) (ex:=0) (rq:=[114]) (an:=[121,101,115]) hP hg6 (kW.get gx fun h=>h) (kW.get gc1 fun h=>h) (hS.keep kW fun _ _ h=>h) s3 (by decide) (by omega) (fun p hp=>nomatch hp) rfl zbr rfl rfl (by omega) rfl zhz wge zbe z9k rfl wgt (by omega) (by omega) (by decide) (by decide) (by decide) z5M.1 z5M.2) ?_
 rintro r M ⟨g',rfl,gg,gc2,⟨FS',hS2,hG2⟩,k2⟩
 have hS3:zt M s FS' (NS+1000000) ((1:Nat):Int) dW:=hS2
 have hpc:¬p=c:=fun h=>by subst h;rw [gp] at gc;simp [plB,ctxB] at gc
 have hxc:¬x=c:=fun h=>by subst h;rw [gx] at gc;simp [exB,ctxB] at gc
 have gpM:=k2.get gpW (fun h=>h.elim hpc s1)
 have gxM:=k2.get (kW.get gx fun h=>h) (fun h=>h.elim hxc s2)
 have lpM:=zg gpM
 simp only [gpM,go_sem,Nat.reduceEqDiff,reduceIte,Nat.reduceAdd,Nat.reduceLT]
 refine Zt (args':=[.int .i64 0]) rfl (Yk (E:=E.noPan) hP) (fun _=>rfl) ?_
 simp only [go_sem,Nat.reduceEqDiff,reduceIte]
 refine zh (z7u (E:=E.noPan) (kn:=some st1) (l:=[⟨rqK 0,[114],[121,101,115]⟩]) (rq:=[114]) hP gxM hS3 (by rw [zbd];decide) z94 zc3 rfl zdB (fun q hq=>by simp only [List.mem_singleton] at hq;subst hq;exact ⟨by decide,by decide⟩) (by decide)) ?_
 rintro r M2 ⟨rfl,rfl⟩
 have ea:z1s [⟨rqK 0,[114],[121,101,115]⟩] [114]=([121,101,115],true):=rfl
 rw [ea]
 have ln:lenOf (.sl g' 0 1 1)=some 1:=rfl
 have lg:=zg gg
 have gg1:=gg
 unfold Zc.cells Zc.withId tk0 at gg1
 have hq:WO .eql (.complex .f64 (fl 1) (fl 1)) (.complex .f64 4607182418800017408 4607182418800017408)=some (.bool true):=by
  have ho:(FloatKind.f64.format.order 4607182418800017408 4607182418800017408==some .eq)=true:=by decide +kernel
  rw [z9l];simp only [WO,if_true,ho,Bool.and_self]
 simp only [gpM,zC ln,gg1,zbS hq,go_sem,Nat.reduceEqDiff,reduceIte,Int.reduceLT,Int.reduceLE,Nat.reduceAdd,Nat.reduceLT,Int.reduceToNat]
 refine zh (z1L (E:=E.noPan) (l:=[(dpK 1 1,tk0.withId 1 1)]) hP gxM hS3 (by rw [zbd];decide) z94 zbW (fun q hq=>by simp only [List.mem_singleton] at hq;subst hq;exact z9k) (by decide)) ?_
 rintro r M3 ⟨rfl,rfl⟩
 have ln2:lenOf (.isl (Yn [(dpK 1 1,tk0.withId 1 1)]))=some 1:=rfl
 simp only [zC ln2,go_sem,Nat.reduceEqDiff,reduceIte,Int.reduceToNat]
 exact (k1.trans kW fun _ _ h=>h).trans k2 fun u hu h=>by
  rcases h with h | h
  ·omega
  ·have:=hFS u h;omega
end
end Go.X.TryzW
end
