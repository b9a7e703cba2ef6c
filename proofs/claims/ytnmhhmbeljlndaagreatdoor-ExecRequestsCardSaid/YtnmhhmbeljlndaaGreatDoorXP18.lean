/- Parts of the proof: XhSeat, Xrr1, Xrr3, Xrr4, Xrr5, Xrr6, Xhpc, Xhpd, Xhsm1, Xhsf, Xhsm2, Xhrs. -/
import Derived.Test.YtnmhhmbeljlndaaGreatDoorXP17
import Derived.Test.YtnmhhmbeljlndaaGreatDoorCards
import Derived.Test.YtnmhhmbeljlndaaGreatDoorTie
import Derived.OpenShut
import Derived.Deep.DeepHandedRow
import Derived.Lib.LaidTab
import Derived.Test.YtnmhhmbeljlndaaGreatDoorProg
set_option linter.unusedVariables false
set_option linter.unusedSimpArgs false
set_option linter.unusedSectionVars false
section
namespace Go.X.TryzW
open Go Go.X Go.Proofs Go.Proofs.YtnmhhmbeljlndaaGreatDoor Go.ChangeShapes Go.WideShapes Go.RowKit
set_option maxRecDepth 100000
theorem zmF:ownKnob Tryz.prog.godebug=none:=by kernel_rfl
theorem loT:laidOutB Tryz.prog=true:=by kernel_rfl
theorem zmI (os:Os) (args:Array Value):laidMet Tryz.prog Rows.execMarksRow.laid ((World.laidAll Tryz.prog os Rows.execMarksRow.laid).forCall (fun _ _=>0) ⟨#[],args,[]⟩).memory:=
 laidMet_laidAll args (by kernel_rfl) (by kernel_rfl)
def dbZ:List Int:=[0,1,56,2,57,49,28,3,61,58,42,50,38,29,17,4,62,47,59,36,45,43,51,22,53,39,33,30,24,18,12,5,63,55,48,27,60,41,37,16,46,35,44,21,52,32,23,11,54,26,40,15,34,20,31,10,25,14,19,9,13,8,7,6]
theorem zgw:dbT=dbZ.map fun z=>.int .u8 z:=rfl
theorem zmX {W : World} (h : laidMetH Tryz.prog Rows.execMarksRow.laid W) : Lib.TabIs Tryz.prog W "math/bits.deBruijn64tab" .u8 dbZ := by
 rw [MakeChecks.laidMetH_plain _ _ _ (by kernel_rfl)] at h
 have h2 := h.filter (fun x => x.1 == "math/bits.deBruijn64tab")
 have e : (Rows.execMarksRow.laid.filter fun x => x.1 == "math/bits.deBruijn64tab") = [("math/bits.deBruijn64tab", Lib.tabData .u8 dbZ)] := by kernel_rfl
 rw [e] at h2
 exact Lib.tabIs_of_head (g:=6) (t:=436) (e:=5) (n:=64) (by kernel_rfl) (by kernel_rfl) (by kernel_rfl) (by kernel_rfl) (by kernel_rfl) (by kernel_rfl) h2
def glE:Nat->Option (List IV):=fun n=>if n=6 then some dbT else none
theorem zfF {W : World} (h : Lib.TabIs Tryz.prog W "math/bits.deBruijn64tab" .u8 dbZ) : ∀ (n : Nat) (cs : List IV), glE n = some cs → ∀ (j : Nat) (y : IV), cs[j]? = some y → ∃ u, W.cell? ⟨n, j, none⟩ = some u ∧ ∀ C : Ctx, VR C y u := by
 intro n cs b j y d
 unfold glE at b
 split at b
 ·rename_i p
  subst p
  cases b
  have hg : Tryz.prog.globalNamed "math/bits.deBruijn64tab" = some 6 := by kernel_rfl
  unfold Lib.TabIs World.var? at h
  rw [hg,Option.bind_some] at h
  rw [zgw,List.getElem?_map,oms] at d
  obtain ⟨z,l,rfl⟩:=d
  refine ⟨.int .u8 z,?_,fun C=>.int _ _⟩
  split at h
  ·rename_i m _ _ hh
   simp only [sij] at h
   subst h
   simp only [World.cell?,hh]
   simp [l]
  ·cases h
 ·cases b
theorem zjP:glE 6=some dbT:=rfl
end Go.X.TryzW
end
section
open Go Go.X Go.Proofs
set_option maxRecDepth 100000
set_option maxHeartbeats 4000000
namespace Go.X.TryzW
section
variable {E:Env} {ρ:Rho} {L:List Blk} {K:IV->List Blk->Prop}
def q59 : XC :=(sO [oI 4 0,oV 5 (.bool false)] (.seq (sO [oI 6 0] (.block 0 (.loop (.seq (sO [oM 7 6,oM 8 0,oN 9 8,oF 10 3 9,oL 11 10,oY 12 11,oB 13 .lss 7 12] (cT 13 .skip (.exit 0))) (.seq (.block 1 (sO [oM 16 0,oN 17 16,oF 18 3 17,oL 19 18,oM 20 6,oO 21 (.idxS 12 (.t 19) (.t 20)),oF 22 0 21,oL 23 22,oM 24 1,oB 25 .geq 23 24] (cT 25 (.seq (.draw [oM 26 6,oM 27 0,oN 28 27,oF 29 3 28,oL 30 29,oM 31 6,oO 32 (.idxS 12 (.t 30) (.t 31)),oF 33 0 32,oL 34 33,oM 35 1,oB 36 .eql 34 35,oM 4 26,oM 5 36]) .ret) .skip))) (.ops [oM 14 6,oK 15 .add 14 1,oM 6 15])))))) (sO [oM 37 0,oN 38 37,oF 39 3 38,oL 40 39,oY 41 40,oM 4 41,oV 5 (.bool false)] .ret)))
def q51 : XC :=(sO [oO 4 (.alloc [(.str []),(.str []),(.str []),(.str []),(.int .i64 0),(.str []),.nsl,.nsl,(.int .i64 0)]),oV 5 (.bool false)] (sO [oM 9 0,oM 10 1,oC 11 59 [.t 9,.t 10],oM 8 11,oX 12 0 8,oX 13 1 8,oM 6 12,oM 7 13] (.seq (sO [oM 14 7,oO 15 (.un .not (.t 14))] (cT 15 (sO [oO 16 (.build [(.str []),(.str []),(.str []),(.str []),(.int .i64 0),(.str []),.nsl,.nsl,(.int .i64 0)] []),oU (.store 9 (.t 4) (.t 16)),oV 5 (.bool false)] .ret) .skip)) (sO [oM 17 0,oN 18 17,oF 19 3 18,oL 20 19,oM 21 6,oO 22 (.idxS 12 (.t 20) (.t 21)),oF 23 1 22,oO 24 (.loadN 9 (.t 23)),oU (.store 9 (.t 4) (.t 24)),oV 5 (.bool true)] .ret))))
def q52 : XC :=(sO [oV 4 .nsl] (sO [oM 8 0,oM 9 1,oC 10 59 [.t 8,.t 9],oM 7 10,oX 11 0 7,oX 12 1 7,oM 5 11,oM 6 12] (.seq (sO [oM 13 6,oO 14 (.un .not (.t 13))] (cT 14 (sO [oV 4 .nsl] .ret) .skip)) (sO [oM 15 0,oN 16 15,oF 17 3 16,oL 18 17,oM 19 5,oO 20 (.idxS 12 (.t 18) (.t 19)),oF 21 10 20,oL 22 21,oM 4 22] .ret))))
def q62 : XC :=(sO [oV 2 .nsl] (sO [oV 3 .nsl] (.seq (sO [oI 4 0] (.block 0 (.loop (.seq (sO [oM 5 4,oM 6 0,oN 7 6,oF 8 3 7,oL 9 8,oY 10 9,oB 11 .lss 5 10] (cT 11 .skip (.exit 0))) (.seq (.block 1 (.ops [oM 14 3,oM 15 0,oN 16 15,oF 17 3 16,oL 18 17,oM 19 4,oO 20 (.idxS 12 (.t 18) (.t 19)),oF 21 0 20,oL 22 21,oO 23 (.bslice 1 [(.str [])] 1 [(0,(.t 22))]),oO 24 (.append 1 16 (.t 14) (.t 23)),oM 3 24])) (.ops [oM 12 4,oK 13 .add 12 1,oM 4 13])))))) (sO [oM 25 3,oM 2 25] .ret))))
def q16 : XC :=(sO [oV 6 (.str []),oV 7 (.bool false)] (sO [oM 12 0,oM 13 1,oC 14 59 [.t 12,.t 13],oM 11 14,oX 15 0 11,oX 16 1 11,oM 8 15,oM 9 16] (.seq (sO [oM 17 9,oO 18 (.un .not (.t 17))] (cT 18 (sO [oV 6 (.str []),oV 7 (.bool false)] .ret) .skip)) (.seq (sO [oI 10 0] (.block 0 (.loop (.seq (sO [oM 19 10,oM 20 0,oN 21 20,oF 22 3 21,oL 23 22,oM 24 8,oO 25 (.idxS 12 (.t 23) (.t 24)),oF 26 11 25,oL 27 26,oY 28 27,oB 29 .lss 19 28] (cT 29 .skip (.exit 0))) (.seq (.block 1 (sO [oM 32 0,oN 33 32,oF 34 3 33,oL 35 34,oM 36 8,oO 37 (.idxS 12 (.t 35) (.t 36)),oF 38 11 37,oL 39 38,oM 40 10,oO 41 (.idxS 2 (.t 39) (.t 40)),oF 42 0 41,oL 43 42,oM 44 2,oB 45 .eql 43 44] (cT 45 (sO [oM 46 0,oN 47 46,oF 48 3 47,oL 49 48,oM 50 8,oO 51 (.idxS 12 (.t 49) (.t 50)),oF 52 11 51,oL 53 52,oM 54 10,oO 55 (.idxS 2 (.t 53) (.t 54)),oF 56 1 55,oL 57 56,oM 6 57,oV 7 (.bool true)] .ret) .skip))) (.ops [oM 30 10,oK 31 .add 30 1,oM 10 31])))))) (sO [oV 6 (.str []),oV 7 (.bool false)] .ret)))))
def zkJ : XC :=(sO [oV 4 (.bool false)] (sO [oM 5 1,oK 6 .geq 5 0,oM 7 6,oG 8 7 true (.mov (.t 1)),oG 9 7 true (.mov (.t 0)),oG 10 7 true (.nilck (.t 9)),oG 11 7 true (.fldA 0 (.t 10)),oG 12 7 true (.load1 (.t 11)),oG 13 7 true (.bin .lss (.t 8) (.t 12)),oO 14 (.pick (.t 7) (.t 13) (.c (.bool false))),oM 4 14] .ret))
@[go_sem] theorem zgj {a b:List UInt8} {KV:IV->List Blk->Prop}:xop E (.bin .geq (.c (.str a)) (.c (.str b))) cev L KV=KV (.bool (!Op.bytesLess a b)) L:=nr rfl
theorem zcR {l:IV}:z3K l=.iptr [zN (.isl []) l] 0 0:=rfl
theorem ZN {z l:IV}:(zN z l).length=55:=rfl
theorem z0N {z l:IV}:(zN z l).getD 3 .und=l:=rfl
theorem We {f:List UInt8} {kn:List (List UInt8 × List UInt8)}:(Y2 f kn).length=12:=rfl
theorem JK (w:E.P=Tryz.prog) {f:List UInt8} {o:Option (List (List UInt8 × List UInt8))}:zD E 59 [yH f o,.str f] (.tup [.int .i64 0,.bool o.isSome]):=by
 refine xw2 (fn:=Tryz.f59) (c:=q59) (t:=4) (t':=5) w fun ρ b h1=>?_
 unfold q59
 unfold yH at b
 rw [zcR] at b
 have l:((3:Nat)<(zN (.isl []) (.isl (Zh f o))).length)=True:=eq_true (by rw [ZN];decide)
 cases o with
 | none=>
  have h:lenOf (.isl (Zh f none))=some 0:=rfl
  simp only [go_sem]
  refine zC (fun n ρ M=>n=0/\M=[]/\ρ 0=.iptr [zN (.isl []) (.isl (Zh f none))] 0 0/\ρ 6=.int .i64 0) ⟨rfl,rfl,by simp only [b,go_sem],by simp only [go_sem]<;>rfl⟩ ?_
  clear b h1 ρ
  rintro n ρ M ⟨rfl,rfl,b,d⟩
  simp only [b,d,l,z0N,zt h,go_sem]
  exact ⟨rfl,rfl⟩
 | some kn=>
  have h:lenOf (.isl (Zh f (some kn)))=some 1:=rfl
  have p:Rows 12 (Zh f (some kn))=True:=eq_true (fun r j=>by simp only [Zh,List.mem_singleton] at j;subst j;rfl)
  have s:(0<(Zh f (some kn)).length)=True:=eq_true (Nat.lt_succ_self 0)
  have m:((0:Int)<((Zh f (some kn)).length:Int))=True:=eq_true (Int.zero_lt_one)
  have u:(Zh f (some kn)).getD 0 []=Y2 f kn:=rfl
  have e1:(some kn).isSome=true:=rfl
  have v:(Y2 f kn).getD 0 .und=.str f:=rfl
  have q:(0<(Y2 f kn).length)=True:=eq_true (by rw [We];decide)
  simp only [go_sem]
  refine zC (fun n ρ M=>n=0/\M=[]/\ρ 0=.iptr [zN (.isl []) (.isl (Zh f (some kn)))] 0 0/\ρ 1=.str f/\ρ 6=.int .i64 0) ⟨rfl,rfl,by simp only [b,go_sem],by simp only [h1,go_sem],by simp only [go_sem]<;>rfl⟩ ?_
  clear b h1 ρ
  rintro n ρ M ⟨rfl,rfl,b,h1,d⟩
  simp only [b,h1,d,l,z0N,zt h,p,s,m,u,v,q,YY,go_sem]
  exact ⟨rfl,rfl,rfl⟩
theorem z0C (l:E.P=Tryz.prog) {f:List UInt8} {o:Option (List (List UInt8 × List UInt8))}:zD E 51 [yH f o,.str f] (.tup [.agg (if o.isSome then [.str [],.str f,.str [],.str [],.int .i64 0,.str [],.isl [],.isl [],.int .i64 0] else [.str [],.str [],.str [],.str [],.int .i64 0,.str [],.isl [],.isl [],.int .i64 0]),.bool o.isSome]):=by
 refine zU (R:=fun r L'=>∃cs,r=.tup [.agg cs,.bool o.isSome]/\(cs=[.str [],.str f,.str [],.str [],.int .i64 0,.str [],.isl [],.isl [],.int .i64 0]/\o.isSome=true\/cs=[.str [],.str [],.str [],.str [],.int .i64 0,.str [],.nsl,.nsl,.int .i64 0]/\o.isSome=false)/\Keep none' [] L') ?_ ?_
 rotate_left
 ·rintro r L' ⟨cs,rfl,⟨rfl,e⟩ | ⟨rfl,e⟩,u⟩<;>rw [e]<;>exact ⟨u,_,rfl,rfl⟩
 refine xt2 (fn:=Tryz.f51) (rs:=[.cellN 4 9,.tmp 5]) (c:=q51) l fun ρ j h1=>?_
 unfold q51
 have b:yH f o=.iptr [zN (.isl []) (.isl (Zh f o))] 0 0:=rfl
 have w:((3:Nat)<(zN (.isl []) (.isl (Zh f o))).length)=True:=eq_true (by rw [ZN];decide)
 simp only [j,h1,go_sem]
 refine zi (args':=[yH f o,.str f]) (by cases o<;>rfl) (JK (E:=E.noPan) l) rfl ?_
 cases o with
 | none=>
  have e1:(none:Option (List (List UInt8 × List UInt8))).isSome=false:=rfl
  simp only [e1,Y6,Zk,ZJ,WH,go_sem]
  exact ⟨_,rfl,.inr rfl,⟨Nat.zero_le _,fun t d=>nomatch d⟩⟩
 | some kn=>
  have p:Rows 12 (Zh f (some kn))=True:=eq_true (fun r h=>by simp only [Zh,List.mem_singleton] at h;subst h;rfl)
  have s:(0<(Zh f (some kn)).length)=True:=eq_true (Nat.lt_succ_self 0)
  have m:((0:Int)<((Zh f (some kn)).length:Int))=True:=eq_true (Int.zero_lt_one)
  have v:(Zh f (some kn)).getD 0 []=Y2 f kn:=rfl
  have e1:(some kn).isSome=true:=rfl
  have q:((1+9)<=(Y2 f kn).length)=True:=eq_true (by rw [We];decide)
  have A:((Y2 f kn).drop 1).take 9=[.str [],.str f,.str [],.str [],.int .i64 0,.str [],.isl [],.isl [],.int .i64 0]:=rfl
  simp only [j,b,w,z0N,p,s,m,v,e1,q,A,Y6,Zk,ZJ,WH,go_sem]
  exact ⟨_,rfl,.inl rfl,⟨Nat.zero_le _,fun t d=>nomatch d⟩⟩
theorem jk (j:E.P=Tryz.prog) {f:List UInt8} {o:Option (List (List UInt8 × List UInt8))}:zD E 52 [yH f o,.str f] (.isl []):=by
 refine xu2 (fn:=Tryz.f52) (c:=q52) (t:=4) j fun ρ h h1=>?_
 unfold q52
 have b:yH f o=.iptr [zN (.isl []) (.isl (Zh f o))] 0 0:=rfl
 have u:((3:Nat)<(zN (.isl []) (.isl (Zh f o))).length)=True:=eq_true (by rw [ZN];decide)
 simp only [h,h1,go_sem]
 refine zi (args':=[yH f o,.str f]) (by cases o<;>rfl) (JK (E:=E.noPan) j) rfl ?_
 cases o with
 | none=>
  have e1:(none:Option (List (List UInt8 × List UInt8))).isSome=false:=rfl
  simp only [e1,go_sem]
  rfl
 | some kn=>
  have m:Rows 12 (Zh f (some kn))=True:=eq_true (fun r d=>by simp only [Zh,List.mem_singleton] at d;subst d;rfl)
  have q:(0<(Zh f (some kn)).length)=True:=eq_true (Nat.lt_succ_self 0)
  have l:((0:Int)<((Zh f (some kn)).length:Int))=True:=eq_true (Int.zero_lt_one)
  have s:(Zh f (some kn)).getD 0 []=Y2 f kn:=rfl
  have e1:(some kn).isSome=true:=rfl
  have p:(10<(Y2 f kn).length)=True:=eq_true (by rw [We];decide)
  have v:(Y2 f kn).getD 10 .und=.isl []:=rfl
  simp only [h,b,u,z0N,m,q,l,s,e1,v,p,go_sem]
  rfl
theorem z8e {sz b:Nat} {x:IV} {rs:List (List IV)} {KV:IV->List Blk->Prop} (m:rowsOf L x=some rs) (hc:yz sz rs) (d:rs≠[]) (j:rs.length*b<=70368744177664) (l:KV (.sl L.length 0 rs.length rs.length) (L++[.cells sz rs])):xop E (.append sz b (.c .nsl) (.c x)) cev L KV:=by
 simp only [xop,Z9]
 unfold ZQ
 simp only [m]
 exact ⟨hc,fun h=>absurd h d,fun _=>⟨j,l⟩⟩
theorem z4o (G:E.P=Tryz.prog) {f:List UInt8} {kn:List (List UInt8 × List UInt8)}:zD E 62 [yH f (some kn)] (.isl [[.str f]]):=by
 refine zU (R:=fun r L'=>∃g,r=.sl g 0 1 1/\L'[g]?=some (.cells 1 [[.str f]])) ?_ ?_
 rotate_left
 ·rintro r L' ⟨g,rfl,hg⟩
  have h1:Zv 0 g=some none:=by simp [Zv]
  refine ⟨⟨Nat.zero_le _,fun t B=>nomatch B⟩,_,?_,rfl⟩
  simp [fuel,conv,h1,hg,zJ]
 refine xt1 (fn:=Tryz.f62) (rs:=[.tmp 2]) (c:=q62) G fun ρ b=>?_
 unfold q62
 obtain ⟨o,I⟩:∃o,some kn=o:=⟨_,rfl⟩
 have h:yH f (some kn)=.iptr [zN (.isl []) (.isl (Zh f (some kn)))] 0 0:=rfl
 have m:((3:Nat)<(zN (.isl []) (.isl (Zh f (some kn)))).length)=True:=eq_true (by rw [ZN];decide)
 have u:Rows 12 (Zh f (some kn))=True:=eq_true (fun r d=>by simp only [Zh,List.mem_singleton] at d;subst d;rfl)
 have w:(0<(Zh f (some kn)).length)=True:=eq_true (Nat.lt_succ_self 0)
 have s:((0:Int)<((Zh f (some kn)).length:Int))=True:=eq_true (Int.zero_lt_one)
 have A:(Zh f (some kn)).getD 0 []=Y2 f kn:=rfl
 have e1:(some kn).isSome=true:=rfl
 have D:(Y2 f kn).getD 0 .und=.str f:=rfl
 have v:(0<(Y2 f kn).length)=True:=eq_true (by rw [We];decide)
 have p:lenOf (.isl (Zh f (some kn)))=some 1:=rfl
 simp only [go_sem]
 refine zC (fun n ρ M=>ρ 0=yH f (some kn)/\((n=1/\M=[]/\ρ 3=.nsl/\ρ 4=.int .i64 0)\/(n=0/\ρ 4=.int .i64 1/\∃g,ρ 3=.sl g 0 1 1/\M[g]?=some (.cells 1 [[.str f]])))) ⟨by simp only [b,go_sem],.inl ⟨rfl,rfl,by simp only [go_sem],by simp only [go_sem]<;>rfl⟩⟩ ?_
 clear b ρ
 rintro n ρ M ⟨b,⟨rfl,rfl,l,j⟩ | ⟨rfl,j,g,l,q⟩⟩
 ·simp only [b,l,j,h,m,z0N,u,w,s,A,D,v,zt p,go_sem]
  refine z8e (rs:=[[.str f]]) rfl (fun r d=>by simp only [List.mem_singleton] at d;subst d;exact ⟨rfl,rfl⟩) (by simp) (by simp) ?_
  simp only [YF,b,j,go_sem]
  exact ⟨0,od,.inr ⟨rfl,_,rfl,rfl⟩⟩
 ·simp only [b,l,j,h,m,z0N,zt p,go_sem]
  exact ⟨g,rfl,q⟩
def zcZ (kn:List (List UInt8 × List UInt8)) (r:List UInt8):List UInt8 × Bool:=match kn.find? fun p=>decide (p.1=r) with
 | some p=>(p.2,true)
 | none=>([],false)
theorem z3k (V:E.P=Tryz.prog) {f rq:List UInt8} {kn:List (List UInt8 × List UInt8)} (hN:kn.length<=100000):zD E 16 [yH f (some kn),.str f,.str rq] (.tup [.str (zcZ kn rq).1,.bool (zcZ kn rq).2]):=by
 refine xw3 (fn:=Tryz.f16) (c:=q16) (t:=6) (t':=7) V fun ρ h h1 h2=>?_
 unfold q16
 have d:yH f (some kn)=.iptr [zN (.isl []) (.isl (Zh f (some kn)))] 0 0:=rfl
 have O:((3:Nat)<(zN (.isl []) (.isl (Zh f (some kn)))).length)=True:=eq_true (by rw [ZN];decide)
 have D:Rows 12 (Zh f (some kn))=True:=eq_true (fun r u=>by simp only [Zh,List.mem_singleton] at u;subst u;rfl)
 have I:(0<(Zh f (some kn)).length)=True:=eq_true (Nat.lt_succ_self 0)
 have B:((0:Int)<((Zh f (some kn)).length:Int))=True:=eq_true (Int.zero_lt_one)
 have J:(Zh f (some kn)).getD 0 []=Y2 f kn:=rfl
 have e1:(some kn).isSome=true:=rfl
 have U:(Y2 f kn).getD 11 .und=.isl (knR kn):=rfl
 have G:(11<(Y2 f kn).length)=True:=eq_true (by rw [We];decide)
 have j:(knR kn).length=kn.length:=List.length_map ..
 have Q:lenOf (.isl (knR kn))=some kn.length:=by rw [<-j];rfl
 have m:Rows 2 (knR kn)=True:=eq_true (fun r u=>by obtain ⟨p,_,rfl⟩:=List.mem_map.1 u;rfl)
 simp only [h,h1,go_sem]
 refine zi (args':=[yH f (some kn),.str f]) rfl (JK (E:=E.noPan) V) rfl ?_
 simp only [e1,go_sem]
 refine zC (fun n ρ M=>∃i:Nat,i<=kn.length/\n=kn.length - i/\M=[]/\ρ 0=yH f (some kn)/\ρ 2=.str rq/\ρ 8=.int .i64 0/\ρ 10=.int .i64 i/\(kn.take i).find? (fun p=>decide (p.1=rq))=none)
  ⟨0,od,rfl,rfl,by simp only [h,go_sem],by simp only [h2,go_sem],by simp only [go_sem]<;>rfl,by simp only [go_sem]<;>rfl,rfl⟩ ?_
 clear h h1 h2 ρ
 rintro n ρ M ⟨i,hi,rfl,rfl,h,h2,w,l,b⟩
 by_cases hc:i<kn.length
 ·have c1:((i:Int)<(kn.length:Int))=True:=tO
  have c0:((0:Int)<=(i:Int))=True:=tO
  obtain ⟨q,v⟩:∃q,kn[i]?=some q:=⟨kn[i],List.getElem?_eq_getElem hc⟩
  have n3:(i<(knR kn).length)=True:=tO
  have s:(knR kn).getD i []=[.str q.1,.str q.2]:=by rw [List.getD_eq_getElem?_getD];simp [knR,v]
  have Z:IntKind.i64.wrap ((i:Int)+1)=((i+1:Nat):Int):=wR
  by_cases hqr:q.1=rq
  ·have R:(q.1=rq)=True:=eq_true hqr
   simp only [h,h2,w,l,d,O,z0N,D,I,B,J,U,G,zt Q,c1,c0,m,j,s,R,Int.toNat_natCast,go_sem]
   have S:kn[i]=q:=by rw [List.getElem?_eq_getElem hc] at v;exact Option.some.inj v
   have X:kn.drop i=q::kn.drop (i+1):=by rw [List.drop_eq_getElem_cons hc,S]
   have T:kn.find? (fun p=>decide (p.1=rq))=some q:=by
    rw [<-List.take_append_drop i kn,List.find?_append,b,X]
    simp [hqr]
   have ha:zcZ kn rq=(q.2,true):=by unfold zcZ;rw [T]
   rw [ha]
   exact ⟨hc,hc,rfl,rfl⟩
  ·have R:(q.1=rq)=False:=eq_false hqr
   simp only [h,h2,w,l,d,O,z0N,D,I,B,J,U,G,zt Q,c1,c0,m,j,s,R,Z,Int.toNat_natCast,go_sem]
   have Y:kn.take (i+1)=kn.take i++[q]:=by rw [List.take_add_one,v];rfl
   refine ⟨hc,kn.length - (i+1),od,i+1,od,rfl,rfl,?_⟩
   rw [Y,List.find?_append,b]
   simp [hqr]
 ·have c1:((i:Int)<(kn.length:Int))=False:=fO
  simp only [h,w,l,d,O,z0N,D,I,B,J,U,G,zt Q,c1,go_sem]
  have A:i=kn.length:=by omega
  subst A
  rw [List.take_length] at b
  have ha:zcZ kn rq=([],false):=by unfold zcZ;rw [b]
  rw [ha]
  exact ⟨rfl,rfl⟩
theorem Jp (h:E.P=Tryz.prog) {f:List UInt8} {o:Option (List (List UInt8 × List UInt8))}:zD E 125 [yH f o,.int .i64 0] (.bool true):=by
 refine xu2 (fn:=Tryz.f125) (c:=zkJ) (t:=4) h fun ρ j h1=>?_
 unfold zkJ
 have b:yH f o=.iptr [zN (.isl []) (.isl (Zh f o))] 0 0:=rfl
 have d:((0:Nat)<(zN (.isl []) (.isl (Zh f o))).length)=True:=eq_true (by rw [ZN];decide)
 have c0:(zN (.isl []) (.isl (Zh f o))).getD 0 .und=.int .i64 3:=rfl
 simp only [j,h1,b,d,c0,go_sem]
 rfl
def zk0 : XC :=(sO [oO 2 (.mov oz)] (sO [oM 4 0,oN 5 4,oO 6 (.loadN 55 (.t 5)),oO 3 (.alloc [(.int .i64 0),(.int .i64 0),(.int .i64 0),.nsl,.nsl,.nsl,.nsl,.nsl,.nsl,.nsl,.nsl,.nsl,.nsl,.nsl,.nsl,.nsl,.nsl,.nsl,.nsl,.nsl,.nsl,.nsl,(.int .i64 0),(.int .i64 0),(.int .i64 0),(.int .i64 0),(.int .i64 0),(.int .i64 0),(.int .i64 0),(.int .i64 0),(.int .i64 0),(.int .i64 0),(.int .i64 0),(.int .i64 0),(.int .i64 0),(.int .i64 0),(.int .i64 0),(.int .i64 0),(.int .i64 0),(.int .i64 0),(.int .i64 0),(.int .i64 0),(.int .i64 0),(.int .i64 0),(.int .i64 0),(.int .i64 0),(.int .i64 0),(.int .i64 0),(.int .i64 0),(.int .i64 0),(.int .i64 0),(.int .i64 0),(.int .i64 0),(.int .i64 0),(.raw (.complex .f64 0 0))]),oU (.store 55 (.t 3) (.t 6))] (sO [oO 7 (.bslice 12 [(.str []),(.str []),(.str []),(.str []),(.str []),(.int .i64 0),(.str []),.nsl,.nsl,(.int .i64 0),.nsl,.nsl] 0 []),oM 8 0,oN 9 8,oF 10 3 9,oL 11 10,oO 12 (.append 12 208 (.t 7) (.t 11)),oF 13 3 3,oS 13 12] (sO [oM 2 3] .ret))))
theorem zc6 {z l:IV}:cellsOf (.agg (zN z l))=zN z l:=rfl
theorem zfj {l:IV}:(zN (.isl []) l).all zG=zG l:=by simp [zN,zG]
theorem zdv {z l:IV}:List.take 55 (zN z l)=zN z l:=rfl
theorem zeI (O:E.P=Tryz.prog) {f:List UInt8} {o:Option (List (List UInt8 × List UInt8))}:XT E 127 [yH f o] L fun r L'=>∃c g,r=.ptr c 0 0/\L'[c]?=some (.cells 55 [zN (.isl []) (.sl g 0 (Zh f o).length (Zh f o).length)])/\L'[g]?=some (.cells 12 (Zh f o))/\L.length<=c/\L.length<=g/\c≠g/\Keep none' L L':=by
 have s:yH f o=.iptr [zN (.isl []) (.isl (Zh f o))] 0 0:=rfl
 have R:((3:Nat)<(zN (.isl []) (.isl (Zh f o))).length)=True:=eq_true (by rw [ZN];decide)
 have U:((0+55:Nat)<=(zN (.isl []) (.isl (Zh f o))).length)=True:=eq_true (by rw [ZN];decide)
 have A:zG (.isl (Zh f o))=true:=rfl
 have G:List.drop 55 ([.int .i64 0,.int .i64 0,.int .i64 0,.nsl,.nsl,.nsl,.nsl,.nsl,.nsl,.nsl,.nsl,.nsl,.nsl,.nsl,.nsl,.nsl,.nsl,.nsl,.nsl,.nsl,.nsl,.nsl,.int .i64 0,.int .i64 0,.int .i64 0,.int .i64 0,.int .i64 0,.int .i64 0,.int .i64 0,.int .i64 0,.int .i64 0,.int .i64 0,.int .i64 0,.int .i64 0,.int .i64 0,.int .i64 0,.int .i64 0,.int .i64 0,.int .i64 0,.int .i64 0,.int .i64 0,.int .i64 0,.int .i64 0,.int .i64 0,.int .i64 0,.int .i64 0,.int .i64 0,.int .i64 0,.int .i64 0,.int .i64 0,.int .i64 0,.int .i64 0,.int .i64 0,.int .i64 0,.raw (.complex .f64 0 0)]:List IV)=[]:=rfl
 refine xt1 (fn:=Tryz.f127) (rs:=[.tmp 2]) (c:=zk0) O fun ρ I=>?_
 unfold zk0
 simp only [I,s,z0N,ZN,zc6,zfj,zdv,A,G,List.append_nil,List.drop_zero,go_sem]
 obtain ⟨c,hc⟩:∃c,L.length=c:=⟨_,rfl⟩
 obtain ⟨b,v⟩:∃b,(L++[Blk.cells 55 [zN (.isl []) (.isl (Zh f o))]]).length=b:=⟨_,rfl⟩
 have T:b=c+1:=by rw [<-v,<-hc];simp
 have D:Keep none' L (L++[Blk.cells 55 [zN (.isl []) (.isl (Zh f o))]]++[Blk.cells 12 []]):=Keep.app (Keep.app Keep.refl)
 have p:(L++[Blk.cells 55 [zN (.isl []) (.isl (Zh f o))]]++[Blk.cells 12 []])[c]?=some (.cells 55 [zN (.isl []) (.isl (Zh f o))]):=by rw [<-hc];simp []
 have m:(L++[Blk.cells 55 [zN (.isl []) (.isl (Zh f o))]]++[Blk.cells 12 []])[b]?=some (.cells 12 []):=by rw [<-v];simp
 rw [v,hc]
 generalize L++[Blk.cells 55 [zN (.isl []) (.isl (Zh f o))]]++[Blk.cells 12 []]=L1 at *
 have S:=zg p
 have u:=zf p
 have Q:=zf m
 have q:cellsOf (.sl b 0 0 0)=[.sl b 0 0 0]:=rfl
 cases o with
 | none=>
  refine YX (rows:=[]) m rfl rfl ?_
  simp only [p,ZN,List.drop_zero,q,go_sem]
  exact ⟨c,b,rfl,List.getElem?_set_self u,by rw [List.getElem?_set_ne od];exact m,Nat.le_refl _,od,od,Keep.set D fun h=>by omega⟩
 | some kn=>
  refine yh (rows:=[]) (rs:=[Y2 f kn]) m rfl rfl (fun r B=>by simp only [List.mem_singleton] at B;subst B;exact ⟨rfl,rfl⟩) (by simp) (by simp) ?_
  obtain ⟨L2,d⟩:∃L2,L1.set b .dead++[Blk.cells 12 ([]++[Y2 f kn])]=L2:=⟨_,rfl⟩
  have M:Keep none' L L2:=by rw [<-d];exact Keep.app (Keep.set D fun h=>by omega)
  have j:L2[c]?=some (.cells 55 [zN (.isl []) (.isl (Zh f (some kn)))]):=by rw [<-d];exact Zz (by rw [List.getElem?_set_ne od];exact p)
  have w:L2[L1.length]?=some (.cells 12 [Y2 f kn]):=by rw [<-d];simp
  have J:=zg j
  rw [d]
  simp only [j,ZN,List.drop_zero,go_sem]
  have l:=zf j
  exact ⟨c,L1.length,rfl,List.getElem?_set_self l,by rw [List.getElem?_set_ne od];exact w,Nat.le_refl _,od,od,Keep.set M fun h=>by omega⟩
def zja : XC :=(sO [oV 19 .nsl] (.seq (sO [oI 20 0] (.block 2 (.loop (.seq (sO [oM 130 20,oF 131 11 18,oL 132 131,oY 133 132,oB 134 .lss 130 133] (cT 134 .skip (.exit 2))) (.seq (.block 3 (.seq (.draw [oF 137 11 18,oL 138 137,oM 139 20,oO 140 (.idxS 2 (.t 138) (.t 139)),oF 141 0 140,oL 142 141,oF 143 13 5,oL 144 143,oB 145 .neq 142 144]) (cT 145 (.ops [oM 146 19,oF 147 11 18,oL 148 147,oM 149 20,oO 150 (.idxS 2 (.t 148) (.t 149)),oO 151 (.loadN 2 (.t 150)),oO 152 (.bslice 2 [(.str []),(.str [])] 1 [(0,(.t 151))]),oO 153 (.append 2 32 (.t 146) (.t 152)),oM 19 153]) .skip))) (.ops [oM 135 20,oK 136 .add 135 1,oM 20 136])))))) (sO [oM 154 19,oF 155 13 5,oL 156 155,oF 157 14 5,oL 158 157,oO 159 (.build [(.str []),(.str [])] [(0,(1,(.t 156))),(1,(1,(.t 158)))]),oO 160 (.bslice 2 [(.str []),(.str [])] 1 [(0,(.t 159))]),oO 161 (.append 2 32 (.t 154) (.t 160)),oM 19 161] (.seq (sO [oM 162 19,oY 163 162,oK 164 .gtr 163 64] (cT 164 (.ops [oM 165 19,oO 166 (.slice 2 (.t 165) (some (oi 1)) none),oM 19 166]) .skip)) (.ops [oM 167 19,oF 168 11 18,oS 168 167])))))
def zid : XC :=(sO [oM 109 11,oN 110 109,oF 111 3 110,oL 112 111,oM 113 15,oO 114 (.idxS 12 (.t 112) (.t 113)),oO 115 (.loadN 12 (.t 114)),oO 18 (.alloc [(.str []),(.str []),(.str []),(.str []),(.str []),(.int .i64 0),(.str []),.nsl,.nsl,(.int .i64 0),.nsl,.nsl]),oU (.store 12 (.t 18) (.t 115))] (sO [oF 116 3 5,oO 117 (.loadN 9 (.t 116)),oF 118 1 18,oU (.store 9 (.t 118) (.t 117))] (.seq (.drawR [(oO 119 (.bslice 4 [(.int .i64 0),(.str []),(.str []),(.int .i64 0)] 0 []),([],true)),(oF 120 10 18,([],false)),(oL 121 120,([0],false)),(oO 122 (.append 4 48 (.t 119) (.t 121)),([],true)),(oF 123 2 5,([],false)),(oL 124 123,([0,3],false)),(oO 125 (.append 4 48 (.t 122) (.t 124)),([],false)),(oF 126 10 18,([],false)),(oS 126 125,([],false))]) (.seq (sO [oF 127 13 5,oL 128 127,oO 129 (.bin .neq (.t 128) (.c (.str [])))] (cT 129 zja .skip)) (.seq (.drawE [oM 169 11,oN 170 169,oF 171 3 170,oL 172 171,oM 173 15,oO 174 (.loadN 12 (.t 18)),oO 175 (.idxS 12 (.t 172) (.t 173)),oU (.store 12 (.t 175) (.t 174))]) (.seq (sO [oF 176 16 5,oL 177 176,oK 178 .gtr 177 0] (cT 178 (.drawE [oM 179 11,oF 180 15 5,oL 181 180,oF 182 16 5,oL 183 182,oN 184 179,oF 185 38 184,oO 186 (.idxA 16 1 (.t 185) (.t 181)),oS 186 183]) .skip)) (sO [oM 187 11,oM 188 12,oM 189 3,oM 8 187,oM 9 188,oM 10 189] .ret)))))))
def q54 : XC :=(sO [oO 5 (.box (.t 1)),oO 8 (.mov oz),oV 9 .nsl,oI 10 0] (sO [oM 21 0,oC 22 127 [.t 21],oM 11 22] (sO [oV 12 .nsl] (.seq (sO [oI 13 0] (.block 0 (.loop (.seq (sO [oM 23 13,oF 24 12 5,oL 25 24,oY 26 25,oB 27 .lss 23 26] (cT 27 .skip (.exit 0))) (.seq (.block 1 (sO [oF 30 12 5,oL 31 30,oM 32 13,oO 33 (.idxS 13 (.t 31) (.t 32)),oO 34 (.loadN 13 (.t 33)),oO 14 (.alloc [(.int .i64 0),(.raw (.complex .f64 0 0)),(.str []),(.str []),(.int .i64 0),(.int .i64 0),(.int .i64 0),(.str []),(.str []),(.str []),(.str []),(.str []),(.int .i64 0)]),oU (.store 13 (.t 14) (.t 34))] (.seq (sO [oF 35 0 14,oL 36 35,oK 37 .eql 36 3] (cT 37 (.ops [oM 38 11,oF 39 6 14,oO 40 (.loadN 7 (.t 39)),oC 41 128 [.t 38,.t 40]]) (sO [oM 42 3,oK 43 .add 42 1,oM 3 43] (sO [oM 44 2,oO 45 (.ex (.itof .f64) [.t 44]),oM 46 3,oO 47 (.ex (.itof .f64) [.t 46]),oO 48 (.ex .cpx [.t 45,.t 47]),oF 49 1 14,oS 49 48] (sO [oF 50 0 14,oL 51 50,oK 52 .eql 51 2] (cT 52 (.drawE [oM 53 11,oM 54 11,oN 55 54,oF 56 5 55,oL 57 56,oO 58 (.loadN 13 (.t 14)),oC 59 129 [.t 57,.t 58],oN 60 53,oF 61 5 60,oS 61 59]) (.drawE [oM 62 11,oM 63 11,oN 64 63,oF 65 4 64,oL 66 65,oO 67 (.loadN 13 (.t 14)),oC 68 129 [.t 66,.t 67],oN 69 62,oF 70 4 69,oS 70 68]))))))) (.ops [oM 71 12,oO 72 (.loadN 13 (.t 14)),oO 73 (.bslice 13 [(.int .i64 0),(.raw (.complex .f64 0 0)),(.str []),(.str []),(.int .i64 0),(.int .i64 0),(.int .i64 0),(.str []),(.str []),(.str []),(.str []),(.str []),(.int .i64 0)] 1 [(0,(.t 72))]),oO 74 (.append 13 168 (.t 71) (.t 73)),oM 12 74])))) (.ops [oM 28 13,oK 29 .add 28 1,oM 13 29])))))) (sO [oM 76 11,oF 77 0 5,oL 78 77,oC 79 59 [.t 76,.t 78],oM 75 79,oX 80 0 75,oX 81 1 75,oM 15 80,oM 16 81] (.seq (sO [oM 82 16,oO 83 (.un .not (.t 82))] (cT 83 (sO [oO 84 (.bslice 12 [(.str []),(.str []),(.str []),(.str []),(.str []),(.int .i64 0),(.str []),.nsl,.nsl,(.int .i64 0),.nsl,.nsl] 0 []),oM 85 11,oN 86 85,oF 87 3 86,oL 88 87,oM 89 15,oO 90 (.slice 12 (.t 88) none (some (.t 89))),oO 91 (.append 12 208 (.t 84) (.t 90)),oM 17 91] (sO [oM 92 17,oF 93 0 5,oL 94 93,oO 95 (.build [(.str []),(.str []),(.str []),(.str []),(.str []),(.int .i64 0),(.str []),.nsl,.nsl,(.int .i64 0),.nsl,.nsl] [(0,(1,(.t 94)))]),oO 96 (.bslice 12 [(.str []),(.str []),(.str []),(.str []),(.str []),(.int .i64 0),(.str []),.nsl,.nsl,(.int .i64 0),.nsl,.nsl] 1 [(0,(.t 95))]),oO 97 (.append 12 208 (.t 92) (.t 96)),oM 17 97] (.ops [oM 98 11,oM 99 17,oM 100 11,oN 101 100,oF 102 3 101,oL 103 102,oM 104 15,oO 105 (.slice 12 (.t 103) (some (.t 104)) none),oO 106 (.append 12 208 (.t 99) (.t 105)),oN 107 98,oF 108 3 107,oS 108 106]))) .skip)) zid))))))
def yY (kn:List (List UInt8 × List UInt8)) (rq:List UInt8):List (List UInt8 × List UInt8):=kn.filter fun p=>decide (¬p.1=rq)
theorem zc4 (hP:E.P=Tryz.prog) {u fb:Nat} {c3 c11 c12 c15 ev kv:IV} {f rq an:List UInt8} {kn:List (List UInt8 × List UInt8)} (T:ρ 3=c3) (Q:ρ 5=.ptr u 0 0) (d:ρ 11=c11) (j:ρ 12=c12) (m:ρ 15=c15) (b:ρ 18=.ptr fb 0 0)
  (gu:L[u]?=some (.cells 17 [wF (.isl []) f rq an])) (gf:L[fb]?=some (.cells 12 [JG f ev kv])) (hl:lenOf kv=some kn.length) (hk:kn≠[]->kv=.isl (knR kn)) (hN:kn.length<=64) :
  Zg E.noPan zja ρ L (zeb fun ρ L'=>(ρ 3=c3/\ρ 5=.ptr u 0 0/\ρ 11=c11/\ρ 12=c12/\ρ 15=c15/\ρ 18=.ptr fb 0 0)/\∃g o br,L'[fb]?=some (.cells 12 [JG f ev (.sl g o (yf kn rq an).length (yf kn rq an).length)])/\L'[g]?=some (.cells 2 br)/\br.drop o=knR (yf kn rq an)/\L.length<=g/\Keep (fun t=>t=fb) L L'):=by
 unfold zja
 have lu:=zg gu
 have lf:=zg gf
 simp only [go_sem]
 refine zC (fun n ρ M=>∃i:Nat,i<=kn.length/\n=kn.length - i/\(ρ 3=c3/\ρ 5=.ptr u 0 0/\ρ 11=c11/\ρ 12=c12/\ρ 15=c15/\ρ 18=.ptr fb 0 0)/\ρ 20=.int .i64 i/\Keep none' L M/\ZY 2 L M (ρ 19) (knR (yY (kn.take i) rq)))
  ⟨0,od,rfl,⟨by simp only [T,go_sem],by simp only [Q,go_sem],by simp only [d,go_sem],by simp only [j,go_sem],by simp only [m,go_sem],by simp only [b,go_sem]⟩,by simp only [go_sem]<;>rfl,Keep.refl,.inl ⟨by simp only [go_sem],rfl⟩⟩ ?_
 clear T Q d j m b
 rintro n ρ M ⟨i,hi,rfl,⟨T,Q,d,j,m,b⟩,R,X,hR⟩
 obtain ⟨ay,O⟩:∃v,ρ 19=v:=⟨_,rfl⟩
 rw [O] at hR
 have B:=X.get gu fun h=>h
 have G:=X.get gf fun h=>h
 have az:=zg B
 have ax:=zg G
 unfold wF at B
 unfold JG at G
 have ag:(knR kn).length=kn.length:=List.length_map ..
 by_cases hc:i<kn.length
 ·have ak:kn≠[]:=fun h=>by rw [h] at hc;simp at hc
  have aj:=hk ak
  subst aj
  have c1:((i:Int)<(kn.length:Int))=True:=tO
  have c0:((0:Int)<=(i:Int))=True:=tO
  obtain ⟨q,hq⟩:∃q,kn[i]?=some q:=⟨kn[i],List.getElem?_eq_getElem hc⟩
  have n3:(i<(knR kn).length)=True:=tO
  have ah:(knR kn).getD i []=[.str q.1,.str q.2]:=by rw [List.getD_eq_getElem?_getD];simp [knR,hq]
  have Z:Rows 2 (knR kn)=True:=eq_true (fun r V=>by obtain ⟨p,_,rfl⟩:=List.mem_map.1 V;rfl)
  have w1:IntKind.i64.wrap ((i:Int)+1)=((i+1:Nat):Int):=wR
  have ht:kn.take (i+1)=kn.take i++[q]:=by rw [List.take_add_one,hq];rfl
  by_cases hqr:q.1=rq
  ·have f2:(q.1=rq)=True:=eq_true hqr
   simp only [T,Q,d,j,m,b,O,R,B,G,zt hl,c1,c0,Z,ag,ah,f2,w1,Int.toNat_natCast,go_sem]
   have e2:yY (kn.take (i+1)) rq=yY (kn.take i) rq:=by unfold yY;rw [ht,List.filter_append];simp [hqr]
   exact ⟨rfl,hc,kn.length - (i+1),od,i+1,od,rfl,rfl,X,by rw [e2];exact hR⟩
  ·have f2:(q.1=rq)=False:=eq_false hqr
   simp only [Q,b,O,R,B,G,zt hl,c1,c0,Z,ag,ah,f2,Int.toNat_natCast,go_sem]
   have e2:yY (kn.take (i+1)) rq=yY (kn.take i) rq++[q]:=by unfold yY;rw [ht,List.filter_append];simp [hqr]
   refine ⟨rfl,hc,hc,?_⟩
   have ai:(yY (kn.take i) rq).length<=64:=by
    have:=(List.filter_sublist (l:=kn.take i) (p:=fun p=>decide (¬p.1=rq))).length_le
    have:(kn.take i).length<=64:=by simp;omega
    unfold yY;omega
   refine wI hR X (by rw [knR,List.length_map];omega) (by decide) (fun r V=>by simp only [List.mem_singleton] at V;subst V;exact ⟨rfl,rfl⟩) (fun w M3 s D=>?_)
   simp only [T,Q,d,j,m,b,R,w1,go_sem]
   exact ⟨kn.length - (i+1),od,i+1,od,rfl,rfl,s,by rw [e2];unfold knR at D ⊢;rw [List.map_append];exact D⟩
 ·have c1:((i:Int)<(kn.length:Int))=False:=fO
  simp only [Q,b,O,R,B,G,zt hl,c1,go_sem]
  have au:i=kn.length:=by omega
  subst au
  rw [List.take_length] at hR
  have ai:(yY kn rq).length<=64:=by
   have:=(List.filter_sublist (l:=kn) (p:=fun p=>decide (¬p.1=rq))).length_le
   unfold yY;omega
  refine wI hR X (by rw [knR,List.length_map];omega) (by decide) (fun r V=>by simp only [List.mem_singleton] at V;subst V;exact ⟨rfl,rfl⟩) (fun w M3 s D=>?_)
  have ef:knR (yY kn rq)++[[IV.str rq,IV.str an]]=knR (yY kn rq++[(rq,an)]):=by simp [knR]
  rw [ef] at D
  have U:(yY kn rq++[(rq,an)]).length=(yY kn rq).length+1:=by simp
  have ae:yf kn rq an=if 64<(yY kn rq++[(rq,an)]).length then (yY kn rq++[(rq,an)]).drop 1 else yY kn rq++[(rq,an)]:=rfl
  rcases D with ⟨_,e⟩ | ⟨g,rfl,hg,af,_⟩
  ·simp [knR] at e
  have hgl:(knR (yY kn rq++[(rq,an)])).length=(yY kn rq).length+1:=by rw [knR,List.length_map,U]
  rw [hgl]
  have ln:lenOf (.sl g 0 ((yY kn rq).length+1) ((yY kn rq).length+1))=some ((yY kn rq).length+1):=rfl
  have J:=s.get gf fun h=>h
  have Y:=zg J
  have S:¬fb=g:=fun h=>by have:=zf gf;omega
  have lg:=zg hg
  unfold JG at J
  by_cases h64:64<(yY kn rq).length+1
  ·have c2:((64:Int)<(((yY kn rq).length+1:Nat):Int))=True:=tO
   simp only [T,Q,d,j,m,b,J,Y,hg,Yk,zt ln,c2,go_sem]
   have I:yf kn rq an=(yY kn rq++[(rq,an)]).drop 1:=by rw [ae,if_pos od]
   have A:(yf kn rq an).length=(yY kn rq).length+1 - 1:=by rw [I,List.length_drop,U]
   refine ⟨g,1,_,by rw [A];rfl,by rw [List.getElem?_set_ne S];exact hg,by rw [I];unfold knR;rw [List.map_drop],af,Keep.set (s.mono fun _ _ h=>h.elim) fun _=>rfl⟩
  ·have c2:((64:Int)<(((yY kn rq).length+1:Nat):Int))=False:=fO
   simp only [T,Q,d,j,m,b,J,Y,zt ln,c2,go_sem]
   have I:yf kn rq an=yY kn rq++[(rq,an)]:=by rw [ae,if_neg od]
   have A:(yf kn rq an).length=(yY kn rq).length+1:=by rw [I,U]
   refine ⟨g,0,_,by rw [A];rfl,by rw [List.getElem?_set_ne S];exact hg,by rw [I];rfl,af,Keep.set (s.mono fun _ _ h=>h.elim) fun _=>rfl⟩
def oldR (f:List UInt8):Option (List (List UInt8 × List UInt8))->List IV
 | none=>[.str f,.str [],.str [],.str [],.str [],.int .i64 0,.str [],.nsl,.nsl,.int .i64 0,.nsl,.nsl]
 | some kn=>Y2 f kn
def knO:Option (List (List UInt8 × List UInt8))->List (List UInt8 × List UInt8)
 | none=>[]
 | some kn=>kn
def evO:Option (List (List UInt8 × List UInt8))->IV
 | none=>.nsl
 | some _=>.isl []
def kvO:Option (List (List UInt8 × List UInt8))->IV
 | none=>.nsl
 | some kn=>.isl (knR kn)
theorem zdw {c g:Nat} {f:List UInt8} {o:Option (List (List UInt8 × List UInt8))} (hc:L[c]?=some (.cells 55 [zN (.isl []) (.sl g 0 (Zh f o).length (Zh f o).length)])) (hg:L[g]?=some (.cells 12 (Zh f o))):zJ (conv L fuel zF) [.ptr c 0 0,.str f]=some [yH f o,.str f]:=by
 have h2:(Zh f o).take (Zh f o).length=Zh f o:=List.take_length
 have b:∀(n:Nat) (m:Ren) (L:List Blk),zJ (zJ (conv L (n+1) m)) (Zh f o)=some (Zh f o):=fun n m L=>by
  cases o with
  | none=>rfl
  | some kn=>simp only [Zh,Y2,zJ,conv]
 simp [fuel,conv,zF,Ren.inner,hc,hg,h2,b,zJ,zN,yH,z3K]
theorem zaD (hP:E.P=Tryz.prog) {f rq an:List UInt8} {o:Option (List (List UInt8 × List UInt8))} {md:Int} {u c g n0:Nat} {L0:List Blk} (hr:rq≠[]) (hN:(knO o).length<=64) (h3:ρ 3=.int .i64 md) (h5:ρ 5=.ptr u 0 0) (D:ρ 11=.ptr c 0 0) (ah:ρ 12=.nsl) (ae:ρ 15=.int .i64 0)
  (G:L[u]?=some (.cells 17 [wF (.isl []) f rq an])) (s:L[c]?=some (.cells 55 [zN (.isl []) (.sl g 0 1 1)])) (w:L[g]?=some (.cells 12 [oldR f o])) (az:n0<=c) (hgl:n0<=g) (dm:n0<=u) (dw:n0=L0.length) (kB:Keep none' L0 L) :
  Zg E.noPan zid ρ L (z1E fun ρ L'=>Zq E.noPan [.tmp 8,.tmp 9,.tmp 10] ρ L' fun r=>∃c g b A ok br,r=.tup [.ptr c 0 0,.nsl,.int .i64 md]/\L'[c]?=some (.cells 55 [zN (.isl []) (.sl g 0 1 1)])/\L'[g]?=some (.cells 12 [JG f (.sl b 0 0 0) (.sl A ok (yf (knO o) rq an).length (yf (knO o) rq an).length)])/\L'[b]?=some (.cells 4 [])/\L'[A]?=some (.cells 2 br)/\br.drop ok=knR (yf (knO o) rq an)/\n0<=c/\n0<=g/\n0<=b/\n0<=A/\Keep none' L0 L'):=by
 unfold zid
 have lu:=zg G
 have lc:=zg s
 have lg:=zg w
 have l:=G
 unfold wF at l
 have g1:((3:Nat)<(zN (.isl []) (.sl g 0 1 1)).length)=True:=eq_true (by rw [ZN];decide)
 have ho:(oldR f o).length=12:=by cases o<;>rfl
 have dh:cellsOf (.agg (oldR f o))=oldR f o:=rfl
 have df:(oldR f o).all zG=true:=by cases o<;>rfl
 have ax:List.take 12 (oldR f o)=oldR f o:=by cases o<;>rfl
 have hz:List.drop 12 ([.str [],.str [],.str [],.str [],.str [],.int .i64 0,.str [],.nsl,.nsl,.int .i64 0,.nsl,.nsl]:List IV)=[]:=rfl
 have ak:List.take 1 (oldR f o)++[.str [],.str f,.str [],.str [],.int .i64 0,.str [],.isl [],.isl [],.int .i64 0]++List.drop 10 (oldR f o)=JG f (evO o) (kvO o):=by cases o<;>rfl
 have aj:(10<(JG f (evO o) (kvO o)).length)=True:=eq_true (show 10<12 by decide)
 have j:(JG f (evO o) (kvO o)).getD 10 .und=evO o:=rfl
 have bn:∀v,List.take 10 (JG f (evO o) (kvO o))++[v]++List.drop 11 (JG f (evO o) (kvO o))=JG f v (kvO o):=fun _=>rfl
 have bi:∀M,rowsOf M (evO o)=some []:=fun M=>by cases o<;>rfl
 obtain ⟨fb,S⟩:∃fb,L.length=fb:=⟨_,rfl⟩
 simp only [h5,D,ae,l,lu,s,w,Yk,g1,z0N,ho,dh,df,ax,hz,ak,aj,j,List.append_nil,List.drop_zero,go_sem]
 refine YX (rows:=[]) (by simp) rfl (bi _) ?_
 simp only [h5,l,lu,j,go_sem]
 refine YX (rows:=[]) (by simp) rfl rfl ?_
 have z1:(rq=[])=False:=eq_false hr
 simp only [h5,l,lu,j,bn,z1,go_sem]
 refine ⟨show 11<=12 by decide,?_⟩
 obtain ⟨b,p⟩:∃b,(L++[Blk.cells 12 [JG f (evO o) (kvO o)]]).length=b:=⟨_,rfl⟩
 have gz:b=fb+1:=by rw [<-p,<-S];simp
 rw [p,S]
 obtain ⟨L2,d⟩:∃L2,(L++[Blk.cells 12 [JG f (evO o) (kvO o)]]++[Blk.cells 4 []]).set fb (Blk.cells 12 [JG f (.sl b 0 0 0) (kvO o)])=L2:=⟨_,rfl⟩
 have Z:Keep none' L L2:=by rw [<-d];exact Keep.set (Keep.app (Keep.app Keep.refl)) fun h=>by omega
 have J:L2[fb]?=some (.cells 12 [JG f (.sl b 0 0 0) (kvO o)]):=by rw [<-d];exact List.getElem?_set_self (by simp;omega)
 have bg:L2[b]?=some (.cells 4 []):=by rw [<-d,List.getElem?_set_ne od,<-p];simp
 have ik:L2.length=fb+2:=by rw [<-d,lls];simp;omega
 rw [d]
 refine WQ _ (zc4 (c3:=.int .i64 md) (c11:=.ptr c 0 0) (c12:=.nsl) (c15:=.int .i64 0) (u:=u) (fb:=fb) (f:=f) (rq:=rq) (an:=an) (kn:=knO o) (kv:=kvO o) (ev:=.sl b 0 0 0) hP (by simp only [h3,go_sem]) (by simp only [h5,go_sem]) (by simp only [D,go_sem]) (by simp only [ah,go_sem]) (by simp only [ae,go_sem]) (by simp only [go_sem]) (Z.get G fun h=>h) J (by cases o with
  | none=>rfl
  | some kn=>show some _=_;rw [knR,List.length_map];rfl) (by cases o with
  | none=>intro h;exact absurd rfl h
  | some kn=>intro _;rfl) hN) (fun gy M h=>?_)
 obtain ⟨⟨af,bf,B,T,V,I⟩,A,ok,br,Q,R,bu,ed,X⟩:=h
 have gp:=zf J
 have gq:u<L.length:=zf G
 have iq:c<L.length:=zf s
 have di:g<L.length:=zf w
 have Y:=X.get (Z.get l fun h=>h) od
 have m:=X.get (Z.get s fun h=>h) od
 have q:=X.get (Z.get w fun h=>h) od
 have cu:=X.get bg od
 have iw:=zg Y
 have ig:=zg m
 have dn:=zg q
 have gm:=zg Q
 have eu:=zg R
 have ay:∀kv,cellsOf (.agg (JG f (.sl b 0 0 0) kv))=JG f (.sl b 0 0 0) kv:=fun _=>rfl
 have ag:(JG f (.sl b 0 0 0) (.sl A ok (yf (knO o) rq an).length (yf (knO o) rq an).length)).all zG=true:=rfl
 have au:∀kv,List.take 12 (JG f (.sl b 0 0 0) kv)=JG f (.sl b 0 0 0) kv:=fun _=>rfl
 have O:∀kv,(JG f (.sl b 0 0 0) kv).length=12:=fun _=>rfl
 have bz:List.drop 12 (oldR f o)=[]:=by cases o<;>rfl
 have U:(g=u)=False:=zo w G (by simp)
 simp only [af,bf,B,T,V,I,Y,m,q,Q,Yk,g1,z0N,ay,ag,au,O,bz,ho,U,List.append_nil,List.drop_zero,go_sem]
 have ai:¬g=c:=fun h=>by subst h;rw [w] at s;simp at s
 exact ⟨c,g,b,A,ok,br,rfl,by rw [List.getElem?_set_ne ai];exact m,List.getElem?_set_self (zf q),by rw [List.getElem?_set_ne od];exact cu,by rw [List.getElem?_set_ne od];exact R,bu,az,hgl,od,od,
  Keep.set (((kB.trans Z fun _ _ h=>h).trans X fun t ht h=>by have:=kB.1;omega)) fun h=>by omega⟩
theorem zds (U:E.P=Tryz.prog) {f rq an:List UInt8} {o:Option (List (List UInt8 × List UInt8))} {ak md:Int} (S:rq≠[]) (hN:(knO o).length<=64):XT E 54 [yH f o,.agg (wF (.isl []) f rq an),.int .i64 ak,.int .i64 md] L fun r L'=>
  ∃c g ge gk ok br,r=.tup [.ptr c 0 0,.nsl,.int .i64 md]/\L'[c]?=some (.cells 55 [zN (.isl []) (.sl g 0 1 1)])/\L'[g]?=some (.cells 12 [JG f (.sl ge 0 0 0) (.sl gk ok (yf (knO o) rq an).length (yf (knO o) rq an).length)])/\L'[ge]?=some (.cells 4 [])/\L'[gk]?=some (.cells 2 br)/\br.drop ok=knR (yf (knO o) rq an)/\L.length<=c/\L.length<=g/\L.length<=ge/\L.length<=gk/\Keep none' L L':=by
 refine xt4 (fn:=Tryz.f54) (rs:=[.tmp 8,.tmp 9,.tmp 10]) (c:=q54) U fun ρ h0 h1 h2 R=>?_
 unfold q54
 have ah:cellsOf (.agg (wF (.isl []) f rq an))=wF (.isl []) f rq an:=rfl
 simp only [h0,h1,ah,go_sem]
 obtain ⟨u,hu⟩:∃u,L.length=u:=⟨_,rfl⟩
 have ae:(wF (.isl []) f rq an).length=17:=rfl
 rw [ae,hu]
 have G:Keep none' L (L++[Blk.cells 17 [wF (.isl []) f rq an]]):=Keep.app Keep.refl
 have gA:(L++[Blk.cells 17 [wF (.isl []) f rq an]])[u]?=some (.cells 17 [wF (.isl []) f rq an]):=by rw [<-hu];simp
 generalize L++[Blk.cells 17 [wF (.isl []) f rq an]]=LA at *
 refine zh (zeI (E:=E.noPan) (f:=f) (o:=o) U) ?_
 rintro r L1 ⟨c,g,rfl,B,D,bn,hgl,az,k1⟩
 have kB:Keep none' L L1:=G.trans k1 fun _ _ h=>h
 have Y:=k1.get gA fun h=>h
 have lu:=zg Y
 have l:=Y
 unfold wF at l
 have af:lenOf (.isl [])=some 0:=rfl
 simp only [go_sem]
 refine zC (fun n ρ M=>n=0/\M=L1/\ρ 3=.int .i64 md/\ρ 5=.ptr u 0 0/\ρ 11=.ptr c 0 0/\ρ 12=.nsl/\ρ 13=.int .i64 0) ⟨rfl,rfl,by simp only [R,go_sem],by simp only [go_sem],by simp only [go_sem],by simp only [go_sem],by simp only [go_sem]<;>rfl⟩ ?_
 clear h0 h1 h2 R ρ
 rintro n ρ L1 ⟨rfl,rfl,R,h5,d,Q,ai⟩
 simp only [h5,d,ai,l,zt af,go_sem]
 refine Yr (args':=[yH f o,.str f]) (zdw B D) (JK (E:=E.noPan) U) rfl rfl ?_
 cases o with
 | some kn=>
  have e1:(some kn).isSome=true:=rfl
  simp only [e1,go_sem]
  exact zaD (o:=some kn) (L0:=L) (n0:=u) U S hN (by simp only [R,go_sem]) (by simp only [h5,go_sem]) (by simp only [d,go_sem]) (by simp only [Q,go_sem]) (by simp only [go_sem]<;>rfl) Y B D (by have:=G.1;omega) (by have:=G.1;omega) od hu.symm kB
 | none=>
  have e1:(none:Option (List (List UInt8 × List UInt8))).isSome=false:=rfl
  simp only [d,e1,go_sem]
  have g1:((3:Nat)<(zN (.isl []) (.sl g 0 (Zh f none).length (Zh f none).length)).length)=True:=eq_true (by rw [ZN];decide)
  have lc:=zg B
  have lg:=zg D
  have v:(Zh f none).length=0:=rfl
  simp only [B,lc,D,lg,z0N,Yk,v,Nat.le_refl,go_sem]
  refine ⟨by rw [ZN];decide,?_⟩
  obtain ⟨b,hb⟩:∃b,L1.length=b:=⟨_,rfl⟩
  have kC:Keep none' L1 (L1++[Blk.cells 12 []]):=Keep.app Keep.refl
  have Z:(L1++[Blk.cells 12 []])[b]?=some (.cells 12 []):=by rw [<-hb];simp
  rw [hb]
  generalize bi:L1++[Blk.cells 12 []]=LC at *
  have ag:=kC.get B fun h=>h
  have O:=kC.get D fun h=>h
  have X:=kC.get l fun h=>h
  have bu:=zg ag
  have bz:=zg O
  have df:=zg X
  refine YX (rows:=[]) Z rfl (by show rowsOf LC (.sl g 0 0 0)=some [];simp [rowsOf,O,Zh]) ?_
  simp only [h5,X,go_sem]
  obtain ⟨b2,s⟩:∃b2,LC.length=b2:=⟨_,rfl⟩
  have bg:=zf Z
  rw [s]
  refine yh (rows:=[]) (rs:=[oldR f none]) (Zz Z) rfl (Zd (sz:=12) (by rw [<-s];simp [oldR]) rfl) (fun r S=>by simp only [List.mem_singleton] at S;subst S;exact ⟨rfl,rfl⟩) (by simp) (by simp) ?_
  obtain ⟨L3,w⟩:∃L3,(LC++[Blk.cells 12 [oldR f none]]).set b .dead++[Blk.cells 12 ([]++[oldR f none])]=L3:=⟨_,rfl⟩
  obtain ⟨p,q⟩:∃p,(LC++[Blk.cells 12 [oldR f none]]).length=p:=⟨_,rfl⟩
  have bf:p=b2+1:=by rw [<-q,<-s];simp
  have V:Keep none' L1 L3:=by rw [<-w];exact Keep.app (Keep.set (Keep.app kC) fun h=>by omega)
  have J:(LC++[Blk.cells 12 [[.str f,.str [],.str [],.str [],.str [],.int .i64 0,.str [],.nsl,.nsl,.int .i64 0,.nsl,.nsl]]]).set b .dead++[Blk.cells 12 ([]++[oldR f none])]=L3:=w
  rw [J,show (LC++[Blk.cells 12 [[.str f,.str [],.str [],.str [],.str [],.int .i64 0,.str [],.nsl,.nsl,.int .i64 0,.nsl,.nsl]]]).length=p from q]
  have j:=V.get B fun h=>h
  have A:=V.get D fun h=>h
  have au:=V.get l fun h=>h
  have m:L3[p]?=some (.cells 12 [oldR f none]):=by rw [<-w,<-q];simp
  have cu:=zg j
  have ay:=zg A
  have dh:=zg au
  simp only [d,j,A,z0N,Yk,v,Nat.le_refl,Nat.sub_self,go_sem]
  refine ⟨by rw [ZN];decide,?_⟩
  refine YX (rows:=[oldR f none]) m rfl (by show rowsOf L3 (.sl g 0 0 0)=some [];simp [rowsOf,A,Zh]) ?_
  have aj:List.take 3 (zN (.isl []) (.sl g 0 0 0))++[.sl p 0 1 1]++List.drop 4 (zN (.isl []) (.sl g 0 0 0))=zN (.isl []) (.sl p 0 1 1):=rfl
  have h4:((3+1:Nat)<=(zN (.isl []) (.sl g 0 0 0)).length)=True:=eq_true (by rw [ZN];decide)
  simp only [j,aj,v,ZN,Nat.sub_self,go_sem]
  have I:=zf j
  have T:¬c=p:=fun h=>by subst h;rw [j] at m;simp at m
  have ax:¬c=u:=fun h=>by have:=zf gA;omega
  refine zaD (o:=none) (L0:=L) (n0:=u) (g:=p) (u:=u) (c:=c) U S hN (by simp only [R,go_sem]) (by simp only [h5,go_sem]) (by simp only [d,go_sem]) (by simp only [Q,go_sem]) (by simp only [go_sem]<;>rfl) (by rw [List.getElem?_set_ne ax];exact V.get Y fun h=>h) (List.getElem?_set_self I) (by rw [List.getElem?_set_ne T];exact m) (by have:=G.1;omega) (by have:=G.1;have:=kB.1;have:=zf Z;omega) od hu.symm (Keep.set (kB.trans V fun _ _ h=>h) fun h=>by have:=G.1;omega)
theorem z6b (n:Nat) (m:Ren) (L:List Blk):∀kn,zJ (zJ (conv L (n+1) m)) (knR kn)=some (knR kn)
 | []=>rfl
 | a::q=>by
  have b:=z6b n m L q
  unfold knR at b ⊢
  simp only [List.map_cons,zJ,b,conv]
theorem z9t (I:E.P=Tryz.prog) {f rq an:List UInt8} {o:Option (List (List UInt8 × List UInt8))} {u A:Int} (G:rq≠[]) (M:(knO o).length<=64):zD E 54 [yH f o,.agg (wF (.isl []) f rq an),.int .i64 u,.int .i64 A] (.tup [yH f (some (yf (knO o) rq an)),.isl [],.int .i64 A]):=by
 refine zU (zds (L:=[]) I G M) ?_
 rintro r L' ⟨c,g,O,Q,ok,v,rfl,B,w,l,q,d,_,_,_,_,J⟩
 refine ⟨J,_,?_,rfl⟩
 obtain ⟨b,j⟩:∃b,yf (knO o) rq an=b:=⟨_,rfl⟩
 rw [j] at w d ⊢
 have D:∀s,Zv 0 s=some none:=fun s=>by simp [Zv]
 have h:(knR b).length=b.length:=List.length_map ..
 have m:ok+b.length<=v.length:=by
  have:=congrArg List.length d
  rw [List.length_drop,h] at this
  by_cases h0:b.length=0
  ·exfalso
   have h1:b≠[]:=by
    rw [<-j];unfold yf;simp only [];split
    ·intro h2
     have:=congrArg List.length h2
     rw [List.length_drop,lln] at this;omega
    ·simp
   exact h1 (List.length_eq_zero_iff.1 h0)
  ·omega
 have p:(v.drop ok).take b.length=knR b:=by rw [d,<-h,List.take_length]
 simp [fuel,conv,Ren.inner,D,B,w,l,q,m,p,z6b,zJ,zN,yH,z3K,Zh,JG,Y2]
def zdF : XC :=(.ops [oM 32 0,oM 33 0,oN 34 33,oF 35 0 34,oL 36 35,oM 37 8,oY 38 37,oO 39 (.cvInt .u8 (.t 38)),oO 40 (.bslice 1 [(.int .u8 0)] 1 [(0,(.t 39))]),oO 41 (.ex (.appT 5 1) [.t 36,.t 40]),oM 42 8,oO 43 (.ex (.appT 5 1) [.t 41,.t 42]),oN 44 32,oF 45 0 44,oS 45 43])
def zm6 : XC :=(.seq (sO [oM 10 1,oM 11 2,oB 12 .lss 10 11,oM 13 12,oG 14 13 false (.mov (.t 1)),oG 15 13 false (.mov (.t 3)),oG 16 13 false (.bin .gtr (.t 14) (.t 15)),oO 17 (.pick (.t 13) (.c (.bool true)) (.t 16))] (cT 17 (sO [oM 18 0,oN 19 18,oF 20 1 19,oU (.store 1 (.t 20) (.c (.bool true)))] .ret) .skip)) (sO [oV 8 .nsl] (.seq (sO [oM 21 1,oM 9 21] (.block 0 (.loop (.seq (sO [oM 22 9,oK 23 .gtr 22 0] (cT 23 .skip (.exit 0))) (.seq (.block 1 (.ops [oM 26 9,oK 27 .rem 26 256,oO 28 (.cvInt .u8 (.t 27)),oO 29 (.bslice 1 [(.int .u8 0)] 1 [(0,(.t 28))]),oM 30 8,oO 31 (.ex (.appT 5 1) [.t 29,.t 30]),oM 8 31])) (.ops [oM 24 9,oK 25 .quo 24 256,oM 9 25])))))) zdF)))
def zl1 : XC :=(sO [oM 4 0,oM 5 1,oO 6 (.lenS (.t 5)),oC 7 240 [.t 4,.t 6,(oi 0),(oi 1048576)]] (.ops [oM 8 0,oM 9 0,oN 10 9,oF 11 0 10,oL 12 11,oM 13 1,oO 14 (.ex (.appT 5 1) [.t 12,.t 13]),oN 15 8,oF 16 0 15,oS 16 14]))
def zkg : XC :=(sO [oV 2 .nsl,oI 3 0] (.seq (sO [oM 4 0,oN 5 4,oF 6 1 5,oL 7 6] (cT 7 (sO [oV 2 .nsl,oI 3 2] .ret) .skip)) (sO [oM 8 0,oN 9 8,oF 10 0 9,oL 11 10,oM 2 11,oI 3 0] .ret)))
def zmf : XC :=(sO [oO 1 (.box (.t 0)),oV 2 .nsl,oI 3 0] (sO [oO 7 (.build [.nsl,(.bool false)] []),oO 8 (.box (.t 7)),oM 4 8] (sO [oM 9 4,oF 10 0 1,oL 11 10,oC 12 241 [.t 9,.t 11]] (sO [oM 13 4,oF 14 1 1,oL 15 14,oC 16 241 [.t 13,.t 15]] (sO [oM 17 4,oF 18 2 1,oL 19 18,oC 20 241 [.t 17,.t 19]] (sO [oM 21 4,oF 22 3 1,oL 23 22,oC 24 241 [.t 21,.t 23]] (sO [oM 25 4,oF 26 4 1,oL 27 26,oC 28 240 [.t 25,.t 27,(oi 0),(oi 4)]] (sO [oM 29 4,oF 30 5 1,oL 31 30,oC 32 241 [.t 29,.t 31]] (sO [oM 33 4,oF 34 6 1,oL 35 34,oY 36 35,oC 37 240 [.t 33,.t 36,(oi 0),(oi 4503599627370496)]] (.seq (sO [oI 5 0] (.block 0 (.loop (.seq (sO [oM 38 5,oF 39 6 1,oL 40 39,oY 41 40,oB 42 .lss 38 41] (cT 42 .skip (.exit 0))) (.seq (.block 1 (sO [oM 45 4,oF 46 6 1,oL 47 46,oM 48 5,oO 49 (.idxS 3 (.t 47) (.t 48)),oF 50 0 49,oL 51 50,oC 52 240 [.t 45,.t 51,(oi 0),(oi 4)]] (sO [oM 53 4,oF 54 6 1,oL 55 54,oM 56 5,oO 57 (.idxS 3 (.t 55) (.t 56)),oF 58 1 57,oL 59 58,oC 60 240 [.t 53,.t 59,(oi 0),(oi 4503599627370496)]] (.ops [oM 61 4,oF 62 6 1,oL 63 62,oM 64 5,oO 65 (.idxS 3 (.t 63) (.t 64)),oF 66 2 65,oL 67 66,oC 68 241 [.t 61,.t 67]])))) (.ops [oM 43 5,oK 44 .add 43 1,oM 5 44])))))) (sO [oM 69 4,oF 70 7 1,oL 71 70,oY 72 71,oC 73 240 [.t 69,.t 72,(oi 0),(oi 4503599627370496)]] (.seq (sO [oI 6 0] (.block 2 (.loop (.seq (sO [oM 74 6,oF 75 7 1,oL 76 75,oY 77 76,oB 78 .lss 74 77] (cT 78 .skip (.exit 2))) (.seq (.block 3 (sO [oM 81 4,oF 82 7 1,oL 83 82,oM 84 6,oO 85 (.idxS 2 (.t 83) (.t 84)),oF 86 0 85,oL 87 86,oC 88 241 [.t 81,.t 87]] (.ops [oM 89 4,oF 90 7 1,oL 91 90,oM 92 6,oO 93 (.idxS 2 (.t 91) (.t 92)),oF 94 1 93,oL 95 94,oC 96 241 [.t 89,.t 95]]))) (.ops [oM 79 6,oK 80 .add 79 1,oM 6 80])))))) (sO [oM 97 4,oF 98 8 1,oL 99 98,oC 100 240 [.t 97,.t 99,(oi 0),(oi 4503599627370496)]] (sO [oM 101 4,oC 102 243 [.t 101],oX 103 0 102,oX 104 1 102,oM 2 103,oM 3 104] .ret))))))))))))))
def zll : XC :=(sO [oO 1 (.box (.t 0)),oV 2 (.bool false)] (sO [oI 3 0] (.seq (sO [oI 4 0] (.block 0 (.loop (.seq (sO [oM 10 4,oF 11 2 1,oL 12 11,oY 13 12,oB 14 .lss 10 13] (cT 14 .skip (.exit 0))) (.seq (.block 1 (sO [oF 18 2 1,oL 19 18,oM 20 4,oO 21 (.idxS 4 (.t 19) (.t 20)),oO 22 (.loadN 4 (.t 21)),oC 23 184 [.t 22],oM 17 23,oX 24 0 17,oX 25 1 17,oM 5 24,oM 6 25] (.seq (sO [oM 26 6,oK 27 .neq 26 0] (cT 27 (sO [oV 2 (.bool true)] .ret) .skip)) (.ops [oM 28 3,oM 29 5,oY 30 29,oB 31 .add 28 30,oM 3 31])))) (.ops [oM 15 4,oK 16 .add 15 1,oM 4 16])))))) (sO [oF 33 3 1,oO 34 (.loadN 9 (.t 33)),oC 35 185 [.t 34],oM 32 35,oX 36 0 32,oX 37 1 32,oM 7 36,oM 8 37] (.seq (sO [oM 38 8,oK 39 .neq 38 0] (cT 39 (sO [oV 2 (.bool true)] .ret) .skip)) (sO [oM 40 3,oM 41 7,oY 42 41,oB 43 .add 40 42,oM 3 43] (.seq (sO [oI 9 0] (.block 2 (.loop (.seq (sO [oM 44 9,oF 45 12 1,oL 46 45,oY 47 46,oB 48 .lss 44 47] (cT 48 .skip (.exit 2))) (.seq (.block 3 (sO [oF 52 12 1,oL 53 52,oM 54 9,oO 55 (.idxS 13 (.t 53) (.t 54)),oO 56 (.loadN 13 (.t 55)),oC 57 186 [.t 56],oM 51 57,oX 58 0 51,oX 59 1 51,oM 7 58,oM 8 59] (.seq (sO [oM 60 8,oK 61 .neq 60 0] (cT 61 (sO [oV 2 (.bool true)] .ret) .skip)) (.ops [oM 62 3,oM 63 7,oY 64 63,oB 65 .add 62 64,oM 3 65])))) (.ops [oM 49 9,oK 50 .add 49 1,oM 9 50])))))) (sO [oM 66 3,oK 67 .gtr 66 65000,oM 2 67] .ret))))))))
def zcI (L:List Blk) (b p k:Nat):Prop:=b<=p/\∃v,L[p]?=some (.cells 2 [[v,.bool false]])/\((v=.nsl/\k=0)\/∃g rows,v=.sl g 0 k k/\rows.length=k/\(L[g]?=some (.cells 1 rows)\/L[g]?=some (.tcells 5 1 rows))/\b<=g/\¬g=p)
theorem z5p {ty bytes g:Nat} {x v:IV} {k b p:Nat} (m:(v=.nsl/\k=0)\/∃g rows,v=.sl g 0 k k/\rows.length=k/\(L[g]?=some (.cells 1 rows)\/L[g]?=some (.tcells ty 1 rows))/\b<=g/\¬g=p) (l:rowsOf L x=some []) (j:K v L):Yj ty bytes v x g L K:=by
 unfold Yj
 rw [l]
 refine ⟨(fun r d=>nomatch d),?_⟩
 rcases m with ⟨rfl,_⟩ | ⟨g,rows,rfl,rfl,hg,_,_⟩
 ·exact ⟨fun _=>j,fun h=>absurd rfl h⟩
 ·refine ⟨rfl,rfl,?_⟩
  rcases hg with hg | hg
  ·simp only [hg]
   unfold ZP
   rw [l]
   refine ⟨(fun r d=>nomatch d),?_⟩
   simp only [hg]
   refine ⟨trivial,od,?_⟩
   rw [if_pos (by simp)]
   have e1:L.set g (.cells 1 (splice rows (0+rows.length) []))=L:=by
    have:splice rows (0+rows.length) []=rows:=by simp [splice]
    rw [this];exact vg hg
   rw [e1];exact j
  ·simp only [hg]
   exact ⟨trivial,trivial,trivial,fun _=>j,fun h=>absurd rfl h⟩
theorem z4E {ty bytes:Nat} {x v:IV} {rs:List (List IV)} {k b p:Nat} (l:b<=L.length) (D:p<L.length) (A:(v=.nsl/\k=0)\/∃g rows,v=.sl g 0 k k/\rows.length=k/\(L[g]?=some (.cells 1 rows)\/L[g]?=some (.tcells ty 1 rows))/\b<=g/\¬g=p) (j:rowsOf L x=some rs) (m:yz 1 rs) (d:rs≠[]) (s:(k+rs.length)*bytes<=70368744177664)
  (r:∀(g:Nat) (rows:List (List IV)) (M:List Blk),rows.length=k+rs.length->(M[g]?=some (.cells 1 rows)\/M[g]?=some (.tcells ty 1 rows))->b<=g->¬g=p->L.length<=g->M.length=L.length+1->Keep (fun t=>v=.sl t 0 k k) L M->K (.sl g 0 (k+rs.length) (k+rs.length)) M):Yj ty bytes v x L.length L K:=by
 rcases A with ⟨rfl,rfl⟩ | ⟨g,rows,rfl,h,hg,u,B⟩
 ·refine JB rfl j m d (by simpa using s) ?_
  have:=r L.length rs (L++[.tcells ty 1 rs]) (by simp) (.inr (by simp)) l od (Nat.le_refl _) (by simp) (Keep.app Keep.refl)
  simpa using this
 ·refine Wy rfl hg h j m d s fun q w=>?_
  refine r L.length (rows++rs) _ (by simp [h]) ?_ l od (Nat.le_refl _) (by simp) (Keep.app (Keep.set Keep.refl fun _=>rfl))
  have e:(L.set g .dead++[q])[L.length]?=some q:=by rw [List.getElem?_append_right (by simp)];simp
  rcases w with rfl | rfl
  ·exact .inl e
  ·exact .inr e
theorem z8x (hP:E.P=Tryz.prog) {b p k n bl:Nat} {U:IV} {L0:List Blk} (h:zcI L0 b p k) (hb:b<=L0.length) (hk:k<=100000) (O:Keep none' L0 L) (h0:ρ 0=.ptr p 0 0) (h8:ρ 8=U) (ag:lenOf U=some bl) (au:bl<=1) (hz:bl=0->U=.nsl) (ho:bl=1->∃g,U=.sl g 0 1 1/\L[g]?=some (.cells 1 [[.int .u8 n]])/\L0.length<=g) :
  Zg E.noPan zdF ρ L (z1E fun ρ L'=>Zq E.noPan [] ρ L' fun r=>r=.tup []/\(∃q,q<=k+2/\zcI L' b p q)/\Keep (fun t=>b<=t) L0 L'):=by
 obtain ⟨S,v,gp,hv⟩:=id h
 have az:=zf gp
 have kl:=O.1
 have D:=O.get gp fun h=>h
 have bg:=zg D
 have wb:IntKind.u8.wrap (bl:Int)=(bl:Int):=wu8 od od
 unfold zdF
 simp only [h0,h8,D,zt ag,wb,go_sem]
 have ah:(v=.nsl/\k=0)\/∃g rows,v=.sl g 0 k k/\rows.length=k/\((L++[Blk.cells 1 [[IV.int .u8 bl]]])[g]?=some (.cells 1 rows)\/(L++[Blk.cells 1 [[IV.int .u8 bl]]])[g]?=some (.tcells 5 1 rows))/\b<=g/\¬g=p:=by
  rcases hv with h | ⟨g,rows,h1,h2,h3,Y⟩
  ·exact .inl h
  ·exact .inr ⟨g,rows,h1,h2,h3.imp (fun h=>Zz (O.get h fun h=>h)) (fun h=>Zz (O.get h fun h=>h)),Y⟩
 refine z4E (b:=b) (p:=p) (rs:=[[.int .u8 bl]]) (by simp;omega) (by simp;omega) ah (ZM (by simp) rfl) (fun r Q=>by simp only [List.mem_singleton] at Q;subst Q;exact ⟨rfl,rfl⟩) (by simp) (by simp;omega) ?_
 intro g rows M d hg m l hgl ax J
 have A:∀t,v=.sl t 0 k k->t<L0.length/\b<=t/\¬t=p:=fun t u=>by
  rcases hv with ⟨rfl,_⟩ | ⟨g,rows,h1,h2,h3,Y,h5⟩
  ·cases u
  ·rw [h1] at u
   injection u with u
   subst u
   exact ⟨h3.elim zf zf,Y,h5⟩
 have j:=J.get (Zz D) fun h=>(A p h).2.2 rfl
 have bi:(L++[Blk.cells 1 [[IV.int .u8 bl]]]).length=L.length+1:=by simp
 have done:∀(g:Nat) (rows:List (List IV)) (q:Nat) (M:List Blk) (ρ:Rho),q<=k+2->rows.length=q->(M[g]?=some (.cells 1 rows)\/M[g]?=some (.tcells 5 1 rows))->b<=g->¬g=p->M[p]?=some (.cells 2 [[v,.bool false]])->Keep (fun t=>b<=t) L0 M->
   (∃q,q<=k+2/\zcI (M.set p (.cells 2 [[.sl g 0 rows.length rows.length,.bool false]])) b p q)/\Keep (fun t=>b<=t) L0 (M.set p (.cells 2 [[.sl g 0 rows.length rows.length,.bool false]])):=by
  intro g rows q M ρ af d hg m l j J
  refine ⟨⟨q,af,S,_,List.getElem?_set_self (zf j),.inr ⟨g,rows,by rw [d],d,?_,m,l⟩⟩,Keep.set J fun _=>S⟩
  rw [List.getElem?_set_ne fun h=>l h.symm]
  exact hg
 have G:Keep (fun t=>b<=t) L0 M:=(Keep.app (O.mono (F':=fun t=>b<=t) fun _ _ h=>h.elim)).trans J fun t u h=>(A t h).2.1
 by_cases hc:bl=0
 ·have:=hz hc
  subst this
  refine z5p (b:=b) (p:=p) (.inr ⟨g,rows,rfl,d,hg,m,l⟩) rfl ?_
  have ay:=zg j
  simp only [j,go_sem]
  have:=done g rows (k+1) M ρ od (by simpa using d) hg m l j G
  rw [d] at this
  exact this
 ·obtain ⟨g1,rfl,ae,ai⟩:=ho od
  have Z:=J.get (Zz ae) fun h=>by have:=(A g1 h).1;omega
  refine z4E (b:=b) (p:=p) (k:=k+1) (rs:=[[.int .u8 n]]) od (zf j) (.inr ⟨g,rows,rfl,d,hg,m,l⟩) (ZM Z rfl) (fun r Q=>by simp only [List.mem_singleton] at Q;subst Q;exact ⟨rfl,rfl⟩) (by simp) (by simp;omega) ?_
  intro g3 B M3 s X R I aj ak T
  have bf:g<M.length:=hg.elim zf zf
  have w:=T.get j fun h=>by injection h with h;exact l h
  have bn:=zg w
  simp only [w,go_sem]
  have V:Keep (fun t=>b<=t) L0 M3:=G.trans T fun t u h=>by injection h with h;omega
  have:=done g3 B (k+2) M3 ρ od (by simpa using s) X R I w V
  rw [s] at this
  exact this
theorem Jk (s:E.P=Tryz.prog) {b p k n:Nat} {hi:Int} (h:zcI L b p k) (R:n<256) (hh:(n:Int)<=hi) (A:k<=100000) (u:b<=L.length) :
  XT E 240 [.ptr p 0 0,.int .i64 n,.int .i64 0,.int .i64 hi] L fun r L'=>r=.tup []/\(∃v,v<=k+2/\zcI L' b p v)/\Keep (fun t=>b<=t) L L':=by
 have G:((n:Int)<0)=False:=fO
 have J:(hi<(n:Int))=False:=fO
 refine xt4 (fn:=Tryz.f240) (rs:=[]) (c:=zm6) s fun ρ d h1 h2 w=>?_
 unfold zm6
 simp only [h1,h2,w,G,J,go_sem]
 refine zC (fun m ρ M=>ρ 0=.ptr p 0 0/\ρ 9=.int .i64 m/\((m=n/\M=L/\ρ 8=.nsl)\/(m=0/\Keep none' L M/\∃g,ρ 8=.sl g 0 1 1/\M[g]?=some (.cells 1 [[.int .u8 n]])/\L.length<=g)))
  ⟨by simp only [d,go_sem],by simp only [go_sem],.inl ⟨rfl,rfl,by simp only [go_sem]⟩⟩ ?_
 clear d h1 h2 w ρ
 rintro m ρ M ⟨d,q,B⟩
 have t1:((n:Int).tmod 256)=(n:Int):=by rw [Int.tmod_eq_emod_of_nonneg od];omega
 have t2:((n:Int).tdiv 256)=0:=by rw [Int.tdiv_eq_ediv_of_nonneg od];omega
 have I:IntKind.u8.wrap (n:Int)=(n:Int):=wu8 od od
 have D:IntKind.i64.wrap 0=0:=by decide
 have Q:IntKind.i64.wrap (n:Int)=(n:Int):=YF od od
 rcases B with ⟨rfl,rfl,j⟩ | ⟨rfl,O,g,j,hg,hgl⟩
 ·by_cases hz:m=0
  ·have l:((0:Int)<(m:Int))=False:=fO
   simp only [q,l,go_sem]
   exact z8x (n:=0) (bl:=0) s h u A Keep.refl (by simp only [d,go_sem]) (by simp only [j,go_sem]) rfl od (fun _=>rfl) (fun h=>by omega)
  ·have l:((0:Int)<(m:Int))=True:=tO
   simp only [d,j,q,l,t1,t2,D,I,go_sem]
   refine ⟨by decide,?_⟩
   refine z5p (b:=0) (p:=M.length+5) (.inr ⟨M.length,[[.int .u8 m]],rfl,rfl,.inl (by simp),Nat.zero_le _,od⟩) rfl ?_
   exact ⟨by decide,0,od,rfl,.inr ⟨rfl,Keep.app Keep.refl,_,rfl,by simp,Nat.le_refl _⟩⟩
 ·simp only [q,go_sem]
  exact z8x (n:=n) (bl:=1) s h u A O (by simp only [d,go_sem]) (by simp only [j,go_sem]) rfl od (fun h=>by omega) (fun _=>⟨g,rfl,hg,hgl⟩)
theorem Vz (T:E.P=Tryz.prog) {b p k:Nat} {s:List UInt8} (h:zcI L b p k) (hn:s.length<256) (hk:k<=90000) (X:b<=L.length) :
  XT E 241 [.ptr p 0 0,.str s] L fun r L'=>r=.tup []/\(∃R,R<=k+2+s.length/\zcI L' b p R)/\Keep (fun t=>b<=t) L L':=by
 refine xt2 (fn:=Tryz.f241) (rs:=[]) (c:=zl1) T fun ρ U h1=>?_
 unfold zl1
 simp only [U,h1,go_sem]
 refine zh (Jk (E:=E.noPan) T h hn od od X) ?_
 rintro r L1 ⟨rfl,⟨G,af,W1⟩,j⟩
 obtain ⟨d,v,q,A⟩:=W1
 have lp:=zg q
 have O:=zf q
 simp only [U,h1,q,go_sem]
 have Q:rowsOf L1 (.str s)=some (s.map fun b=>[.int .u8 b.toNat]):=rfl
 by_cases hs:s=[]
 ·subst hs
  refine z5p (b:=b) (p:=p) A Q ?_
  have l:cellsOf v=[v]/\zG v=true:=by rcases A with ⟨rfl,_⟩ | ⟨g,rows,rfl,_⟩<;>exact ⟨rfl,rfl⟩
  have e1:([v].all zG=true)=True:=by simp [l.2]
  simp only [q,l.1,l.2,go_sem]
  have V:L1.set p (.cells 2 [[v,.bool false]])=L1:=vg q
  rw [V]
  exact ⟨⟨G,by simp;omega,d,v,q,A⟩,j⟩
 ·refine z4E (b:=b) (p:=p) (by have:=j.1;omega) O A Q (fun r Y=>by obtain ⟨c,_,rfl⟩:=List.mem_map.1 Y;exact ⟨rfl,rfl⟩) (by simp [hs]) (by simp;omega) ?_
  intro g rows M D hg J B hgl ae S
  have w:∀t,v=.sl t 0 G G->b<=t/\¬t=p:=fun t u=>by
   rcases A with ⟨rfl,_⟩ | ⟨g,rows,h1,h2,h3,h4,h5⟩
   ·cases u
   ·rw [h1] at u
    injection u with u
    subst u
    exact ⟨h4,h5⟩
  have m:=S.get q fun h=>(w p h).2 rfl
  have Z:=zg m
  have I:(s.map fun b=>[IV.int .u8 b.toNat]).length=s.length:=List.length_map ..
  rw [I] at D ⊢
  simp only [m,go_sem]
  refine ⟨⟨G+s.length,od,d,_,List.getElem?_set_self (zf m),.inr ⟨g,rows,rfl,D,?_,J,B⟩⟩,Keep.set (j.trans S fun t u h=>(w t h).1) fun _=>d⟩
  rw [List.getElem?_set_ne fun h=>B h.symm]
  exact hg
theorem zcP (m:E.P=Tryz.prog) {b p k:Nat} (h:zcI L b p k):XT E 243 [.ptr p 0 0] L fun r L'=>∃v,r=.tup [v,.int .i64 0]/\lenOf v=some k/\L'=L:=by
 obtain ⟨j,v,d,l⟩:=h
 have lp:=zg d
 refine xt1 (fn:=Tryz.f243) (rs:=[.tmp 2,.tmp 3]) (c:=zkg) m fun ρ q=>?_
 unfold zkg
 simp only [q,d,go_sem]
 rcases l with ⟨rfl,rfl⟩ | ⟨g,rows,rfl,_⟩<;>exact ⟨_,rfl,rfl⟩
theorem z9H (b:E.P=Tryz.prog):XT E 185 [.agg [.str [],.str [102,97,97],.str [],.str [],.int .i64 0,.str [],.isl [],.isl [],.int .i64 0]] L fun r L'=>∃v n,r=.tup [v,.int .i64 0]/\lenOf v=some n/\n<=100/\Keep none' L L':=by
 refine xt1 (fn:=Tryz.f185) (rs:=[.tmp 2,.tmp 3]) (c:=zmf) b fun ρ h0=>?_
 unfold zmf
 have ah:cellsOf (.agg [.str [],.str [102,97,97],.str [],.str [],.int .i64 0,.str [],.isl [],.isl [],.int .i64 0])=[.str [],.str [102,97,97],.str [],.str [],.int .i64 0,.str [],.isl [],.isl [],.int .i64 0]:=rfl
 simp only [h0,ah,go_sem]
 obtain ⟨u,hu⟩:∃u,L.length=u:=⟨_,rfl⟩
 obtain ⟨p,hp⟩:∃p,(L++[Blk.cells 9 [[.str [],.str [102,97,97],.str [],.str [],.int .i64 0,.str [],.isl [],.isl [],.int .i64 0]]]).length=p:=⟨_,rfl⟩
 have np:p=u+1:=by rw [<-hp,<-hu];simp
 rw [hp,hu]
 have j:lenOf (.isl [])=some 0:=rfl
 obtain ⟨L0,d⟩:∃L0,L++[Blk.cells 9 [[.str [],.str [102,97,97],.str [],.str [],.int .i64 0,.str [],.isl [],.isl [],.int .i64 0]]]++[Blk.cells 2 [[.nsl,.bool false]]]=L0:=⟨_,rfl⟩
 have kA:Keep none' L L0:=by rw [<-d];exact Keep.app (Keep.app Keep.refl)
 have U:L0[u]?=some (.cells 9 [[.str [],.str [102,97,97],.str [],.str [],.int .i64 0,.str [],.isl [],.isl [],.int .i64 0]]):=by rw [<-d,<-hu];simp []
 have W0:zcI L0 p p 0:=⟨Nat.le_refl _,.nsl,by rw [<-d,<-hp];simp,.inl ⟨rfl,rfl⟩⟩
 have au:L0.length=p+1:=by rw [<-d];simp;omega
 have di:=zg U
 have T:Keep (fun t=>p<=t) L0 L0:=Keep.refl
 rw [d]
 refine zh (Vz (E:=E.noPan) b W0 (by decide) od (by have:=T.1;omega)) ?_
 rintro r L1 ⟨rfl,⟨n1,ae,W1⟩,k1⟩
 have V:Keep (fun t=>p<=t) L0 L1:=T.trans k1 fun _ _ h=>h
 have B:=k1.get U od
 have bn:=zg B
 simp only [lln] at ae
 simp only [B,go_sem]
 refine zh (Vz (E:=E.noPan) b W1 (by decide) od (by have:=V.1;omega)) ?_
 rintro r L2 ⟨rfl,⟨n2,ai,W2⟩,k2⟩
 have Y:Keep (fun t=>p<=t) L0 L2:=V.trans k2 fun _ _ h=>h
 have w:=k2.get B od
 have bu:=zg w
 simp only [lln,llc] at ai
 simp only [w,go_sem]
 refine zh (Vz (E:=E.noPan) b W2 (by decide) od (by have:=Y.1;omega)) ?_
 rintro r L3 ⟨rfl,⟨n3,aj,W3⟩,k3⟩
 have X:Keep (fun t=>p<=t) L0 L3:=Y.trans k3 fun _ _ h=>h
 have D:=k3.get w od
 have dm:=zg D
 simp only [lln] at aj
 simp only [D,go_sem]
 refine zh (Vz (E:=E.noPan) b W3 (by decide) od (by have:=X.1;omega)) ?_
 rintro r L4 ⟨rfl,⟨n4,af,W4⟩,k4⟩
 have Q:Keep (fun t=>p<=t) L0 L4:=X.trans k4 fun _ _ h=>h
 have G:=k4.get D od
 have az:=zg G
 simp only [lln] at af
 simp only [G,go_sem]
 refine zh (Jk (E:=E.noPan) (n:=0) b W4 (by decide) (by decide) od (by have:=Q.1;omega)) ?_
 rintro r L5 ⟨rfl,⟨n5,bg,W5⟩,k5⟩
 have R:Keep (fun t=>p<=t) L0 L5:=Q.trans k5 fun _ _ h=>h
 have A:=k5.get G od
 have cu:=zg A
 simp only [A,go_sem]
 refine zh (Vz (E:=E.noPan) b W5 (by decide) od (by have:=R.1;omega)) ?_
 rintro r L6 ⟨rfl,⟨n6,ag,W6⟩,k6⟩
 have J:Keep (fun t=>p<=t) L0 L6:=R.trans k6 fun _ _ h=>h
 have q:=k6.get A od
 have bf:=zg q
 simp only [lln] at ag
 simp only [q,zt j,go_sem]
 refine zh (Jk (E:=E.noPan) (n:=0) b W6 (by decide) (by decide) od (by have:=J.1;omega)) ?_
 rintro r L7 ⟨rfl,⟨n7,df,W7⟩,k7⟩
 have O:Keep (fun t=>p<=t) L0 L7:=J.trans k7 fun _ _ h=>h
 have s:=k7.get q od
 have ax:=zg s
 simp only [go_sem]
 refine zC (fun m ρ M=>m=0/\M=L7/\ρ 1=.ptr u 0 0/\ρ 4=.ptr p 0 0/\ρ 5=.int .i64 0) ⟨rfl,rfl,by simp only [go_sem],by simp only [go_sem],by simp only [go_sem]<;>rfl⟩ ?_
 clear h0 ρ
 rintro m ρ M ⟨rfl,rfl,h1,I,h5⟩
 simp only [h1,I,h5,s,zt j,go_sem]
 refine zh (Jk (E:=E.noPan) (n:=0) b W7 (by decide) (by decide) od (by have:=O.1;omega)) ?_
 rintro r L8 ⟨rfl,⟨n8,bi,W8⟩,k8⟩
 have S:Keep (fun t=>p<=t) L0 L8:=O.trans k8 fun _ _ h=>h
 have l:=k8.get s od
 have dh:=zg l
 simp only [go_sem]
 refine zC (fun m ρ M=>m=0/\M=L8/\ρ 1=.ptr u 0 0/\ρ 4=.ptr p 0 0/\ρ 6=.int .i64 0) ⟨rfl,rfl,by simp only [h1,go_sem],by simp only [I,go_sem],by simp only [go_sem]<;>rfl⟩ ?_
 clear h1 I h5 ρ
 rintro m ρ M ⟨rfl,rfl,h1,I,h6⟩
 simp only [h1,I,h6,l,zt j,go_sem]
 refine zh (Jk (E:=E.noPan) (n:=0) b W8 (by decide) (by decide) od (by have:=S.1;omega)) ?_
 rintro r L9 ⟨rfl,⟨n9,bz,W9⟩,k9⟩
 have ak:Keep (fun t=>p<=t) L0 L9:=S.trans k9 fun _ _ h=>h
 have Z:=k9.get l od
 have ay:=zg Z
 simp only [I,go_sem]
 refine zh (zcP (E:=E.noPan) b W9) ?_
 rintro r M ⟨v,rfl,hv,rfl⟩
 simp only [go_sem]
 exact ⟨v,_,rfl,hv,od,kA.trans ak fun t ht h=>by omega⟩
theorem z0E (w:E.P=Tryz.prog) {rq an:List UInt8}:zD E 126 [.agg (wF (.isl []) [102,97,97] rq an)] (.bool false):=by
 refine zU (R:=fun r L'=>r=.bool false/\Keep none' [] L') ?_ ?_
 rotate_left
 ·rintro r L' ⟨rfl,S⟩
  exact ⟨S,_,rfl,rfl⟩
 refine xt1 (fn:=Tryz.f126) (rs:=[.tmp 2]) (c:=zll) w fun ρ B=>?_
 unfold zll
 have p:cellsOf (.agg (wF (.isl []) [102,97,97] rq an))=wF (.isl []) [102,97,97] rq an:=rfl
 simp only [B,p,go_sem]
 have q:(wF (.isl []) [102,97,97] rq an).length=17:=rfl
 have d:lenOf (.isl [])=some 0:=rfl
 obtain ⟨L1,j⟩:∃L1,[Blk.cells 17 [wF (.isl []) [102,97,97] rq an]]=L1:=⟨_,rfl⟩
 have s:L1[0]?=some (.cells 17 [wF (.isl []) [102,97,97] rq an]):=by rw [<-j];rfl
 have V:=zg s
 have b:=s
 unfold wF at b
 rw [q,j]
 refine zC (fun n ρ M=>n=0/\M=L1/\ρ 1=.ptr 0 0 0/\ρ 3=.int .i64 0/\ρ 4=.int .i64 0) ⟨rfl,rfl,by simp only [go_sem],by simp only [go_sem]<;>rfl,by simp only [go_sem]<;>rfl⟩ ?_
 clear B ρ
 rintro n ρ M ⟨rfl,rfl,h1,m,A⟩
 simp only [h1,A,b,zt d,go_sem]
 refine zh (z9H (E:=E.noPan) w) ?_
 rintro r M2 ⟨v,n,rfl,O,U,D⟩
 have l:=D.get b fun h=>h
 have T:=zg l
 have I:IntKind.i64.wrap (0+(n:Int))=(n:Int):=wR
 simp only [m,zt O,I,go_sem]
 refine zC (fun u ρ M=>u=0/\M=M2/\ρ 1=.ptr 0 0 0/\ρ 3=.int .i64 n/\ρ 9=.int .i64 0) ⟨rfl,rfl,by simp only [h1,go_sem],by simp only [go_sem],by simp only [go_sem]<;>rfl⟩ ?_
 clear h1 m A ρ
 rintro u ρ M2 ⟨rfl,rfl,h1,m,Q⟩
 have G:((65000:Int)<(n:Int))=False:=fO
 simp only [h1,m,Q,l,zt d,G,go_sem]
 exact ⟨Nat.zero_le _,fun t J=>nomatch J⟩
def q53 : XC :=(sO [oO 3 (.box (.t 1)),oI 4 0] (.seq (.seq (.drawE [oF 10 0 3,oL 11 10,oQ 12 124 [.t 11],oO 13 (.un .not (.t 12)),oM 14 13,oG 15 14 false (.fldA 0 (.t 3)),oG 16 14 false (.load1 (.t 15)),oG 17 14 false (.mov (.t 0)),oG 18 14 false (.nilck (.t 17)),oG 19 14 false (.fldA 0 (.t 18)),oG 20 14 false (.load1 (.t 19)),oG 21 14 false (.pcall (.f 31) [.t 16,.t 20]),oG 22 14 false (.mov (.t 0)),oG 23 14 false (.nilck (.t 22)),oG 24 14 false (.fldA 1 (.t 23)),oG 25 14 false (.load1 (.t 24)),oG 26 14 false (.bin .neq (.t 21) (.t 25)),oO 27 (.pick (.t 14) (.c (.bool true)) (.t 26))]) (cT 27 (sO [oI 4 17] .ret) .skip)) (sO [oM 29 0,oF 30 0 3,oL 31 30,oC 32 59 [.t 29,.t 31],oM 28 32,oX 33 0 28,oX 34 1 28,oM 5 33,oM 6 34] (sO [oI 7 0] (.seq (sO [oM 35 6] (cT 35 (.ops [oM 36 0,oN 37 36,oF 38 3 37,oL 39 38,oM 40 5,oO 41 (.idxS 12 (.t 39) (.t 40)),oF 42 10 41,oL 43 42,oY 44 43,oM 7 44]) .skip)) (sO [oI 8 0] (.seq (sO [oM 45 0,oF 46 15 3,oL 47 46,oC 48 125 [.t 45,.t 47]] (cT 48 (.draw [oM 49 0,oF 50 15 3,oL 51 50,oN 52 49,oF 53 38 52,oO 54 (.idxA 16 1 (.t 53) (.t 51)),oL 55 54,oM 8 55]) .skip)) (.seq (sO [oF 56 1 3,oL 57 56,oM 58 7,oB 59 .neq 57 58,oM 60 59,oG 61 60 false (.fldA 3 (.t 3)),oG 62 60 false (.fldA 8 (.t 61)),oG 63 60 false (.load1 (.t 62)),oG 64 60 false (.fldA 1 (.t 3)),oG 65 60 false (.load1 (.t 64)),oG 66 60 false (.fldA 2 (.t 3)),oG 67 60 false (.load1 (.t 66)),oG 68 60 false (.len (.t 67)),oG 69 60 false (.bin .add (.t 65) (.t 68)),oG 70 60 false (.bin .neq (.t 63) (.t 69)),oO 71 (.pick (.t 60) (.c (.bool true)) (.t 70)),oM 72 71,oG 73 72 false (.fldA 16 (.t 3)),oG 74 72 false (.load1 (.t 73)),oG 75 72 false (.bin .gtr (.t 74) (oi 0)),oG 76 72 false (.mov (.t 75)),oG 77 76 true (.fldA 16 (.t 3)),oG 78 76 true (.load1 (.t 77)),oG 79 76 true (.mov (.t 8)),oG 80 76 true (.bin .add (.t 79) (oi 1)),oG 81 76 true (.bin .neq (.t 78) (.t 80)),oG 82 72 false (.pick (.t 76) (.t 81) (.c (.bool false))),oO 83 (.pick (.t 72) (.c (.bool true)) (.t 82))] (cT 83 (sO [oI 4 14] .ret) .skip)) (.seq (sO [oF 84 16 3,oL 85 84,oK 86 .gtr 85 0,oM 87 86,oG 88 87 true (.mov (.t 0)),oG 89 87 true (.fldA 15 (.t 3)),oG 90 87 true (.load1 (.t 89)),oG 91 87 true (.call (.f 125) [.t 88,.t 90]),oG 92 87 true (.un .not (.t 91)),oO 93 (.pick (.t 87) (.t 92) (.c (.bool false))),oM 94 93,oG 95 94 false (.fldA 13 (.t 3)),oG 96 94 false (.load1 (.t 95)),oG 97 94 false (.lenS (.t 96)),oG 98 94 false (.bin .gtr (.t 97) (oi 256)),oO 99 (.pick (.t 94) (.c (.bool true)) (.t 98))] (cT 99 (sO [oI 4 1] .ret) .skip)) (.seq (sO [oM 100 6,oO 101 (.un .not (.t 100)),oM 102 101,oG 103 102 true (.mov (.t 0)),oG 104 102 true (.nilck (.t 103)),oG 105 102 true (.fldA 3 (.t 104)),oG 106 102 true (.load1 (.t 105)),oG 107 102 true (.len (.t 106)),oG 108 102 true (.bin .geq (.t 107) (oi 256)),oO 109 (.pick (.t 102) (.t 108) (.c (.bool false)))] (cT 109 (sO [oI 4 8] .ret) .skip)) (.seq (sO [oO 110 (.loadN 17 (.t 3)),oC 111 126 [.t 110],oM 112 111,oG 113 112 false (.fldA 14 (.t 3)),oG 114 112 false (.load1 (.t 113)),oG 115 112 false (.lenS (.t 114)),oG 116 112 false (.bin .gtr (.t 115) (oi 4096)),oO 117 (.pick (.t 112) (.c (.bool true)) (.t 116))] (cT 117 (sO [oI 4 2] .ret) .skip)) (.seq (sO [oI 9 0] (.block 0 (.loop (.seq (sO [oM 118 9,oF 119 12 3,oL 120 119,oY 121 120,oB 122 .lss 118 121] (cT 122 .skip (.exit 0))) (.seq (.block 1 (sO [oF 125 12 3,oL 126 125,oM 127 9,oO 128 (.idxS 13 (.t 126) (.t 127)),oF 129 0 128,oL 130 129,oK 131 .eql 130 3,oM 132 131,oG 133 132 true (.fldA 12 (.t 3)),oG 134 132 true (.load1 (.t 133)),oG 135 132 true (.mov (.t 9)),oG 136 132 true (.idxS 13 (.t 134) (.t 135)),oG 137 132 true (.fldA 6 (.t 136)),oG 138 132 true (.fldA 1 (.t 137)),oG 139 132 true (.load1 (.t 138)),oG 140 132 true (.call (.f 124) [.t 139]),oG 141 132 true (.un .not (.t 140)),oO 142 (.pick (.t 132) (.t 141) (.c (.bool false)))] (cT 142 (sO [oI 4 2] .ret) .skip))) (.ops [oM 123 9,oK 124 .add 123 1,oM 9 124])))))) (sO [oI 4 0] .ret)))))))))))))
theorem z3E (m:E.P=Tryz.prog) {rq an:List UInt8} {o:Option (List (List UInt8 × List UInt8))} (A:rq.length<=256) (ha:an.length<=4096):zD E 53 [yH [102,97,97] o,.agg (wF (.isl []) [102,97,97] rq an)] (.int .i64 0):=by
 refine zU (R:=fun r L'=>r=.int .i64 0/\Keep none' [] L') ?_ ?_
 rotate_left
 ·rintro r L' ⟨rfl,Y⟩
  exact ⟨Y,_,rfl,rfl⟩
 refine xt2 (fn:=Tryz.f53) (rs:=[.tmp 4]) (c:=q53) m fun ρ p h1=>?_
 unfold q53
 have v:cellsOf (.agg (wF (.isl []) [102,97,97] rq an))=wF (.isl []) [102,97,97] rq an:=rfl
 have w:(wF (.isl []) [102,97,97] rq an).length=17:=rfl
 have d:yH [102,97,97] o=.iptr [zN (.isl []) (.isl (Zh [102,97,97] o))] 0 0:=rfl
 have u:(zN (.isl []) (.isl (Zh [102,97,97] o))).getD 0 .und=.int .i64 3:=rfl
 have O:(zN (.isl []) (.isl (Zh [102,97,97] o))).getD 1 .und=.int .i64 1:=rfl
 have l:(zN (.isl []) (.isl (Zh [102,97,97] o))).getD 38 .und=.int .i64 0:=rfl
 have g0:((0:Nat)<(zN (.isl []) (.isl (Zh [102,97,97] o))).length)=True:=eq_true (by rw [ZN];decide)
 have U:((1:Nat)<(zN (.isl []) (.isl (Zh [102,97,97] o))).length)=True:=eq_true (by rw [ZN];decide)
 have S:((3:Nat)<(zN (.isl []) (.isl (Zh [102,97,97] o))).length)=True:=eq_true (by rw [ZN];decide)
 have s:((38:Nat)<(zN (.isl []) (.isl (Zh [102,97,97] o))).length)=True:=eq_true (by rw [ZN];decide)
 have h:lenOf (.isl [])=some 0:=rfl
 simp only [h1,v,go_sem]
 obtain ⟨L1,q⟩:∃L1,[Blk.cells 17 [wF (.isl []) [102,97,97] rq an]]=L1:=⟨_,rfl⟩
 have Q:L1[0]?=some (.cells 17 [wF (.isl []) [102,97,97] rq an]):=by rw [<-q];rfl
 have lu:=zg Q
 have b:=Q
 unfold wF at b
 rw [w,q]
 simp only [go_sem]
 refine zY (args':=[.str [102,97,97]]) rfl (z7w (E:=E.noPan) m) (fun _=>rfl) ?_
 simp only [p,b,d,g0,u,go_sem]
 refine zY (args':=[.str [102,97,97],.int .i64 3]) rfl (z4U (E:=E.noPan) m) (fun _=>rfl) ?_
 simp only [p,b,d,U,u,O,go_sem]
 refine zi (args':=[yH [102,97,97] o,.str [102,97,97]]) (by cases o<;>rfl) (JK (E:=E.noPan) m) rfl ?_
 have f256:((256:Int)<(rq.length:Int))=False:=fO
 have j:((4096:Int)<(an.length:Int))=False:=fO
 have w0:IntKind.i64.wrap (0+((0:Nat):Int))=0:=by decide
 have ae:zJ (conv L1 fuel zF) [.agg (wF (.isl []) [102,97,97] rq an)]=some [.agg (wF (.isl []) [102,97,97] rq an)]:=rfl
 have X:List.take 17 (wF (.isl []) [102,97,97] rq an)=wF (.isl []) [102,97,97] rq an:=rfl
 cases o with
 | none=>
  have e1:(none:Option (List (List UInt8 × List UInt8))).isSome=false:=rfl
  have B:lenOf (.isl (Zh [102,97,97] none))=some 0:=rfl
  simp only [p,b,d,e1,go_sem]
  refine zi (args':=[yH [102,97,97] none,.int .i64 0]) rfl (Jp (E:=E.noPan) m) rfl ?_
  simp only [YF,p,b,d,e1,s,l,zt h,zt B,S,z0N,f256,go_sem]
  refine ⟨rfl,?_⟩
  refine zi (args':=[.agg (wF (.isl []) [102,97,97] rq an)]) rfl (z0E (E:=E.noPan) m) rfl ?_
  simp only [YF,b,j,go_sem]
  refine zC (fun n ρ M=>n=0/\M=L1/\ρ 3=.ptr 0 0 0/\ρ 9=.int .i64 0) ⟨rfl,rfl,by simp only [go_sem],by simp only [go_sem]<;>rfl⟩ ?_
  clear p h1 ρ
  rintro n ρ L1 ⟨rfl,rfl,I,J⟩
  simp only [I,J,b,zt h,go_sem]
  exact ⟨Nat.zero_le _,fun t G=>nomatch G⟩
 | some kn=>
  have e1:(some kn).isSome=true:=rfl
  have T:Rows 12 (Zh [102,97,97] (some kn))=True:=eq_true (fun r A=>by simp only [Zh,List.mem_singleton] at A;subst A;rfl)
  have n1:(0<(Zh [102,97,97] (some kn)).length)=True:=eq_true (Nat.lt_succ_self 0)
  have Z:((0:Int)<((Zh [102,97,97] (some kn)).length:Int))=True:=eq_true (Int.zero_lt_one)
  have V:(Zh [102,97,97] (some kn)).getD 0 []=Y2 [102,97,97] kn:=rfl
  have gf:(Y2 [102,97,97] kn).getD 10 .und=.isl []:=rfl
  have D:(10<(Y2 [102,97,97] kn).length)=True:=eq_true (by rw [We];decide)
  simp only [p,b,d,e1,S,z0N,T,n1,Z,V,gf,D,zt h,go_sem]
  refine zi (args':=[yH [102,97,97] (some kn),.int .i64 0]) rfl (Jp (E:=E.noPan) m) rfl ?_
  simp only [YF,p,b,d,e1,s,l,zt h,z0N,f256,go_sem]
  refine ⟨rfl,?_⟩
  refine zi (args':=[.agg (wF (.isl []) [102,97,97] rq an)]) rfl (z0E (E:=E.noPan) m) rfl ?_
  simp only [YF,b,j,go_sem]
  refine zC (fun n ρ M=>n=0/\M=L1/\ρ 3=.ptr 0 0 0/\ρ 9=.int .i64 0) ⟨rfl,rfl,by simp only [go_sem],by simp only [go_sem]<;>rfl⟩ ?_
  clear p h1 ρ
  rintro n ρ L1 ⟨rfl,rfl,I,J⟩
  simp only [I,J,b,zt h,go_sem]
  exact ⟨Nat.zero_le _,fun t G=>nomatch G⟩
def q13 : XC :=(sO [oO 3 (.box (.t 1)),oO 4 (.alloc [(.str []),(.int .i64 0),.nsl,(.str []),(.str []),(.str []),(.str []),(.int .i64 0),(.str []),.nsl,.nsl,(.int .i64 0),.nsl,(.str []),(.str []),(.int .i64 0),(.int .i64 0)])] (.seq (.drawE [oM 8 0,oN 9 8,oF 10 5 9,oL 11 10,oF 12 0 3,oL 13 12,oQ 14 51 [.t 11,.t 13],oM 7 14,oX 15 0 7,oX 16 1 7,oO 5 (.alloc [(.str []),(.str []),(.str []),(.str []),(.int .i64 0),(.str []),.nsl,.nsl,(.int .i64 0)]),oU (.store 9 (.t 5) (.t 15)),oM 6 16]) (.seq (.drawE [oM 17 0,oN 18 17,oF 19 5 18,oL 20 19,oF 21 0 3,oL 22 21,oC 23 52 [.t 20,.t 22],oY 24 23,oF 25 1 3,oS 25 24]) (sO [oF 26 1 3,oL 27 26,oF 28 2 3,oL 29 28,oY 30 29,oB 31 .add 27 30,oF 32 3 3,oF 33 8 32,oS 33 31] (sO [oF 34 0 3,oL 35 34,oF 36 3 3,oF 37 1 36,oS 37 35] (sO [oO 38 (.loadN 9 (.t 5))] (.seq (sO [oF 39 16 3,oL 40 39,oK 41 .gtr 40 0] (cT 41 (sO [oF 42 15 3,oL 43 42,oC 44 6 [.t 43,(oi 3)],oF 45 15 3,oS 45 44] (.drawE [oM 46 0,oN 47 46,oF 48 5 47,oL 49 48,oF 50 15 3,oL 51 50,oN 52 49,oF 53 38 52,oO 54 (.idxA 16 1 (.t 53) (.t 51)),oL 55 54,oK 56 .add 55 1,oF 57 16 3,oS 57 56])) .skip)) (sO [oO 58 (.loadN 17 (.t 3)),oU (.store 17 (.t 4) (.t 58))] .ret))))))))
def q56 : XC :=(.seq (sO [oI 2 0] (.block 0 (.loop (.seq (sO [oM 4 2,oM 5 0,oY 6 5,oB 7 .lss 4 6] (cT 7 .skip (.exit 0))) (.seq (.block 1 (.ops [oM 10 0,oM 11 2,oO 12 (.build [(.int .i64 0),(.raw (.complex .f64 0 0)),(.str []),(.str []),(.int .i64 0),(.int .i64 0),(.int .i64 0),(.str []),(.str []),(.str []),(.str []),(.str []),(.int .i64 0)] [(0,(1,(.c (.int .i64 (-1)))))]),oO 13 (.idxS 13 (.t 10) (.t 11)),oU (.store 13 (.t 13) (.t 12))])) (.ops [oM 8 2,oK 9 .add 8 1,oM 2 9])))))) (sO [oI 3 0] (.block 2 (.loop (.seq (sO [oM 14 3,oK 15 .lss 14 10] (cT 15 .skip (.exit 2))) (.seq (.block 3 (.ops [oM 18 0,oO 19 (.build [(.int .i64 0),(.raw (.complex .f64 0 0)),(.str []),(.str []),(.int .i64 0),(.int .i64 0),(.int .i64 0),(.str []),(.str []),(.str []),(.str []),(.str []),(.int .i64 0)] [(0,(1,(.c (.int .i64 (-2)))))]),oO 20 (.bslice 13 [(.int .i64 0),(.raw (.complex .f64 0 0)),(.str []),(.str []),(.int .i64 0),(.int .i64 0),(.int .i64 0),(.str []),(.str []),(.str []),(.str []),(.str []),(.int .i64 0)] 1 [(0,(.t 19))]),oO 21 (.append 13 168 (.t 18) (.t 20)),oM 0 21])) (.ops [oM 16 3,oK 17 .add 16 1,oM 3 17])))))))
def q67 : XC :=(sO [oO 1 (.box (.t 0))] (.seq (sO [oI 2 0] (.block 0 (.loop (.seq (sO [oM 5 2,oF 6 6 1,oL 7 6,oY 8 7,oB 9 .lss 5 8] (cT 9 .skip (.exit 0))) (.seq (.block 1 (.ops [oF 12 6 1,oL 13 12,oM 14 2,oO 15 (.build [(.int .i64 0),(.int .i64 0),(.str [])] [(0,(1,(.c (.int .i64 (-1))))),(2,(1,(.c (.str [115,112,111,105,108,116]))))]),oO 16 (.idxS 3 (.t 13) (.t 14)),oU (.store 3 (.t 16) (.t 15))])) (.ops [oM 10 2,oK 11 .add 10 1,oM 2 11])))))) (.seq (sO [oI 3 0] (.block 2 (.loop (.seq (sO [oM 17 3,oK 18 .lss 17 10] (cT 18 .skip (.exit 2))) (.seq (.block 3 (sO [oF 21 6 1,oL 22 21,oO 23 (.build [(.int .i64 0),(.int .i64 0),(.str [])] [(0,(1,(.c (.int .i64 (-2)))))]),oO 24 (.bslice 3 [(.int .i64 0),(.int .i64 0),(.str [])] 1 [(0,(.t 23))]),oO 25 (.append 3 32 (.t 22) (.t 24)),oF 26 6 1,oS 26 25] (.ops [oF 27 7 1,oL 28 27,oO 29 (.build [(.str []),(.str [])] [(0,(1,(.c (.str [103,114,111,119,110]))))]),oO 30 (.bslice 2 [(.str []),(.str [])] 1 [(0,(.t 29))]),oO 31 (.append 2 32 (.t 28) (.t 30)),oF 32 7 1,oS 32 31]))) (.ops [oM 19 3,oK 20 .add 19 1,oM 3 20])))))) (sO [oI 4 0] (.block 4 (.loop (.seq (sO [oM 33 4,oF 34 7 1,oL 35 34,oY 36 35,oB 37 .lss 33 36] (cT 37 .skip (.exit 4))) (.seq (.block 5 (.ops [oF 40 7 1,oL 41 40,oM 42 4,oO 43 (.build [(.str []),(.str [])] [(0,(1,(.c (.str [115,112,111,105,108,116]))))]),oO 44 (.idxS 2 (.t 41) (.t 42)),oU (.store 2 (.t 44) (.t 43))])) (.ops [oM 38 4,oK 39 .add 38 1,oM 4 39])))))))))
def q68 : XC :=(.seq (sO [oI 2 0] (.block 0 (.loop (.seq (sO [oM 4 2,oM 5 0,oY 6 5,oB 7 .lss 4 6] (cT 7 .skip (.exit 0))) (.seq (.block 1 (.ops [oM 10 0,oM 11 2,oO 12 (.build [(.int .i64 0),(.str []),(.str []),(.int .i64 0)] [(0,(1,(.c (.int .i64 (-1)))))]),oO 13 (.idxS 4 (.t 10) (.t 11)),oU (.store 4 (.t 13) (.t 12))])) (.ops [oM 8 2,oK 9 .add 8 1,oM 2 9])))))) (sO [oI 3 0] (.block 2 (.loop (.seq (sO [oM 14 3,oK 15 .lss 14 10] (cT 15 .skip (.exit 2))) (.seq (.block 3 (.ops [oM 18 0,oO 19 (.build [(.int .i64 0),(.str []),(.str []),(.int .i64 0)] [(0,(1,(.c (.int .i64 (-2)))))]),oO 20 (.bslice 4 [(.int .i64 0),(.str []),(.str []),(.int .i64 0)] 1 [(0,(.t 19))]),oO 21 (.append 4 48 (.t 18) (.t 20)),oM 0 21])) (.ops [oM 16 3,oK 17 .add 16 1,oM 3 17])))))))
theorem loaded (b:E.P=Tryz.prog) (o:Option (List (List UInt8 × List UInt8))):∃cs ob,zD E 51 [yH faa o,.str faa] (.tup [.agg cs,.bool ob])/\cellsOf (.agg cs)=cs/\cs.length=9/\cs.all zG=true/\cs.take 9=cs/\∀m,conv [] fuel (ZR m) (.tup [.agg cs,.bool ob])=some (.tup [.agg cs,.bool ob]):=by
 refine ⟨_,_,z0C b,rfl,?_⟩
 cases o<;>exact ⟨rfl,rfl,rfl,fun _=>rfl⟩
theorem z8q (G:E.P=Tryz.prog) {p t s dk n d:Nat} {c x:IV} {rq an:List UInt8} {o:Option (List (List UInt8 × List UInt8))} (j:L[p]?=some (plB t s dk c x (yH faa o) n d)) :
  XT E 13 [.ptr p 0 0,.agg [.str faa,.int .i64 0,.nsl,.str [],.str [],.str [],.str [],.int .i64 0,.str [],.nsl,.nsl,.int .i64 0,.nsl,.str rq,.str an,.int .i64 0,.int .i64 0]] L fun r L'=>r=.agg (z2s 0 .nsl st0 .nsl rq an 0 0)/\Keep none' L L':=by
 have lp:=zg j
 have ae:=j
 unfold plB at j
 have l:cellsOf (.agg [.str faa,.int .i64 0,.nsl,.str [],.str [],.str [],.str [],.int .i64 0,.str [],.nsl,.nsl,.int .i64 0,.nsl,.str rq,.str an,.int .i64 0,.int .i64 0])=[.str faa,.int .i64 0,.nsl,.str [],.str [],.str [],.str [],.int .i64 0,.str [],.nsl,.nsl,.int .i64 0,.nsl,.str rq,.str an,.int .i64 0,.int .i64 0]:=rfl
 refine xt2 (fn:=Tryz.f13) (rs:=[.cellN 4 17]) (c:=q13) G fun ρ S h1=>?_
 unfold q13
 simp only [S,h1,l,j,lp,go_sem]
 obtain ⟨cs,ob,D,I,Q,O,V,M⟩:=loaded (E:=E.noPan) G o
 refine zY (args':=[yH faa o,.str faa]) (by cases o<;>rfl) D M ?_
 have X:List.drop 9 ([.str [],.str [],.str [],.str [],.int .i64 0,.str [],.nsl,.nsl,.int .i64 0]:List IV)=[]:=rfl
 obtain ⟨u,m⟩:∃u,L.length=u:=⟨_,rfl⟩
 obtain ⟨w,J⟩:∃w,(L++[Blk.cells 17 [[.str faa,.int .i64 0,.nsl,.str [],.str [],.str [],.str [],.int .i64 0,.str [],.nsl,.nsl,.int .i64 0,.nsl,.str rq,.str an,.int .i64 0,.int .i64 0]]]).length=w:=⟨_,rfl⟩
 have nw:w=u+1:=by rw [<-J,<-m];simp
 have U:Keep none' L (L++[Blk.cells 17 [[.str faa,.int .i64 0,.nsl,.str [],.str [],.str [],.str [],.int .i64 0,.str [],.nsl,.nsl,.int .i64 0,.nsl,.str rq,.str an,.int .i64 0,.int .i64 0]]]++[Blk.cells 17 [[.str [],.int .i64 0,.nsl,.str [],.str [],.str [],.str [],.int .i64 0,.str [],.nsl,.nsl,.int .i64 0,.nsl,.str [],.str [],.int .i64 0,.int .i64 0]]]):=Keep.app (Keep.app Keep.refl)
 have v:(L++[Blk.cells 17 [[.str faa,.int .i64 0,.nsl,.str [],.str [],.str [],.str [],.int .i64 0,.str [],.nsl,.nsl,.int .i64 0,.nsl,.str rq,.str an,.int .i64 0,.int .i64 0]]]++[Blk.cells 17 [[.str [],.int .i64 0,.nsl,.str [],.str [],.str [],.str [],.int .i64 0,.str [],.nsl,.nsl,.int .i64 0,.nsl,.str [],.str [],.int .i64 0,.int .i64 0]]])[u]?=some (.cells 17 [[.str faa,.int .i64 0,.nsl,.str [],.str [],.str [],.str [],.int .i64 0,.str [],.nsl,.nsl,.int .i64 0,.nsl,.str rq,.str an,.int .i64 0,.int .i64 0]]):=by rw [<-m];simp []
 have R:(L++[Blk.cells 17 [[.str faa,.int .i64 0,.nsl,.str [],.str [],.str [],.str [],.int .i64 0,.str [],.nsl,.nsl,.int .i64 0,.nsl,.str rq,.str an,.int .i64 0,.int .i64 0]]]++[Blk.cells 17 [[.str [],.int .i64 0,.nsl,.str [],.str [],.str [],.str [],.int .i64 0,.str [],.nsl,.nsl,.int .i64 0,.nsl,.str [],.str [],.int .i64 0,.int .i64 0]]])[w]?=some (.cells 17 [[.str [],.int .i64 0,.nsl,.str [],.str [],.str [],.str [],.int .i64 0,.str [],.nsl,.nsl,.int .i64 0,.nsl,.str [],.str [],.int .i64 0,.int .i64 0]]):=by rw [<-J];simp
 rw [m,J]
 generalize L++[Blk.cells 17 [[.str faa,.int .i64 0,.nsl,.str [],.str [],.str [],.str [],.int .i64 0,.str [],.nsl,.nsl,.int .i64 0,.nsl,.str rq,.str an,.int .i64 0,.int .i64 0]]]++[Blk.cells 17 [[.str [],.int .i64 0,.nsl,.str [],.str [],.str [],.str [],.int .i64 0,.str [],.nsl,.nsl,.int .i64 0,.nsl,.str [],.str [],.int .i64 0,.int .i64 0]]]=L1 at *
 have b:=U.get j fun h=>h
 have B:=zg b
 have T:=zg v
 have lw:=zg R
 have q:lenOf (.isl [])=some 0:=rfl
 have A:lenOf .nsl=some 0:=rfl
 simp only [S,I,Q,O,X,List.append_nil,v,T,b,B,go_sem]
 refine zi (args':=[yH faa o,.str faa]) (by cases o<;>rfl) (jk (E:=E.noPan) G) rfl ?_
 have un:(u=w)=False:=fO
 have wn:(w=u)=False:=fO
 have w0:IntKind.i64.wrap (0+0)=0:=by decide
 have Y:IntKind.i64.wrap (((0:Nat):Int)+((0:Nat):Int))=0:=by decide
 have Z:(((0:Nat):Int))=0:=rfl
 simp only [YF,v,T,R,lw,zt q,zt A,un,Z,Y6,Zk,ZJ,go_sem]
 exact ⟨od,rfl,Keep.set (Keep.set (Keep.set (Keep.set (Keep.app U) fun h=>by omega) fun h=>by omega) fun h=>by omega) fun h=>by omega⟩
theorem z2Z (A:E.P=Tryz.prog):XT E 56 [.nsl] L fun r L'=>r=.tup []/\Keep none' L L':=by
 have s:lenOf .nsl=some 0:=rfl
 refine xt1 (fn:=Tryz.f56) (rs:=[]) (c:=q56) A fun ρ b=>?_
 unfold q56
 simp only [go_sem]
 refine zC (fun n ρ M=>n=0/\M=L/\ρ 0=.nsl/\ρ 2=.int .i64 0) ⟨rfl,rfl,by simp only [b,go_sem],by simp only [go_sem]<;>rfl⟩ ?_
 clear b ρ
 rintro n ρ M ⟨rfl,rfl,b,h2⟩
 simp only [b,h2,zt s,go_sem]
 refine zC (fun n ρ M1=>∃i:Nat,i<=10/\n=10 - i/\ρ 3=.int .i64 i/\Keep none' M M1/\ZY 13 M M1 (ρ 0) (List.replicate i [.int .i64 (-2),.raw (.complex .f64 0 0),.str [],.str [],.int .i64 0,.int .i64 0,.int .i64 0,.str [],.str [],.str [],.str [],.str [],.int .i64 0])) ⟨0,od,rfl,by simp only [go_sem]<;>rfl,Keep.refl,.inl ⟨by simp only [b,go_sem],rfl⟩⟩ ?_
 clear b h2 ρ
 rintro n ρ M1 ⟨i,hi,rfl,l,q,m⟩
 obtain ⟨B,b⟩:∃v,ρ 0=v:=⟨_,rfl⟩
 rw [b] at m
 by_cases hc:i<10
 ·have j:((i:Int)<10)=True:=tO
  have u:IntKind.i64.wrap ((i:Int)+1)=((i+1:Nat):Int):=wR
  simp only [b,l,j,go_sem]
  refine wI m q (by rw [List.length_replicate];omega) (by decide) (fun r p=>by simp only [List.mem_singleton] at p;subst p;exact ⟨rfl,rfl⟩) (fun w M3 d h=>?_)
  simp only [l,u,go_sem]
  exact ⟨10 - (i+1),od,i+1,od,rfl,rfl,d,by rw [List.replicate_succ'];exact h⟩
 ·have j:((i:Int)<10)=False:=fO
  simp only [l,j,go_sem]
  exact q
theorem z8C (A:E.P=Tryz.prog):XT E 68 [.nsl] L fun r L'=>r=.tup []/\Keep none' L L':=by
 have s:lenOf .nsl=some 0:=rfl
 refine xt1 (fn:=Tryz.f68) (rs:=[]) (c:=q68) A fun ρ b=>?_
 unfold q68
 simp only [go_sem]
 refine zC (fun n ρ M=>n=0/\M=L/\ρ 0=.nsl/\ρ 2=.int .i64 0) ⟨rfl,rfl,by simp only [b,go_sem],by simp only [go_sem]<;>rfl⟩ ?_
 clear b ρ
 rintro n ρ M ⟨rfl,rfl,b,h2⟩
 simp only [b,h2,zt s,go_sem]
 refine zC (fun n ρ M1=>∃i:Nat,i<=10/\n=10 - i/\ρ 3=.int .i64 i/\Keep none' M M1/\ZY 4 M M1 (ρ 0) (List.replicate i [.int .i64 (-2),.str [],.str [],.int .i64 0])) ⟨0,od,rfl,by simp only [go_sem]<;>rfl,Keep.refl,.inl ⟨by simp only [b,go_sem],rfl⟩⟩ ?_
 clear b h2 ρ
 rintro n ρ M1 ⟨i,hi,rfl,l,q,m⟩
 obtain ⟨B,b⟩:∃v,ρ 0=v:=⟨_,rfl⟩
 rw [b] at m
 by_cases hc:i<10
 ·have j:((i:Int)<10)=True:=tO
  have u:IntKind.i64.wrap ((i:Int)+1)=((i+1:Nat):Int):=wR
  simp only [b,l,j,go_sem]
  refine wI m q (by rw [List.length_replicate];omega) (by decide) (fun r p=>by simp only [List.mem_singleton] at p;subst p;exact ⟨rfl,rfl⟩) (fun w M3 d h=>?_)
  simp only [l,u,go_sem]
  exact ⟨10 - (i+1),od,i+1,od,rfl,rfl,d,by rw [List.replicate_succ'];exact h⟩
 ·have j:((i:Int)<10)=False:=fO
  simp only [l,j,go_sem]
  exact q
theorem z2B {sz b:Nat} {L1:List Blk} {v:IV} {rows:List (List IV)} {p:List IV} {KV':IV->List Blk->Prop} (h:ZY sz L L1 v rows) (B:Keep none' L L1) (D:rows.length<=1000000) (m:b<=1000) (d:yz sz [p]) (s:∀(w:IV) (M:List Blk),Keep none' L M->Keep (fun t=>∃n,v=.sl t 0 n n) L1 M->ZY sz L M w (rows++[p])->KV' w M) :
  xop E (.append sz b (.c v) (.c (.sl L1.length 0 1 1))) cev (L1++[.cells sz [p]]) KV':=by
 have r:rowsOf (L1++[Blk.cells sz [p]]) (.sl L1.length 0 1 1)=some [p]:=Zd (sz:=sz) (by simp) rfl
 have j:Keep none' L (L1++[Blk.cells sz [p]]):=Keep.app B
 have q:(rows.length+1)*b<=70368744177664:=Nat.le_trans (Nat.mul_le_mul (show rows.length+1<=1000001 by omega) m) (by decide)
 rcases h with ⟨rfl,rfl⟩ | ⟨rb,rfl,l,u,A⟩
 ·refine Yo r d (by simp) (by simp;omega) (s _ _ (Keep.app j) (Keep.app (Keep.app Keep.refl)) (.inr ⟨_,rfl,?_,j.1,by simp⟩))
  simp
 ·refine yh (Zz l) rfl r d (by simp) q (s _ _ (Keep.app (Keep.set j fun h=>by omega)) (Keep.app (Keep.set (Keep.app Keep.refl) fun _=>⟨_,rfl⟩)) (.inr ⟨(L1++[Blk.cells sz [p]]).length,by simp,?_,j.1,by simp⟩))
  have e1:((L1++[Blk.cells sz [p]]).set rb .dead).length=(L1++[Blk.cells sz [p]]).length:=lls
  rw [<-e1,List.getElem?_append_right (Nat.le_refl _),Nat.sub_self]
  simp
def stN (st:StV) (vn vs:IV):List IV:=[.str st.dfn,.str st.id,.str st.par,.str st.pn,.int .i64 st.st,.str st.txt,vn,vs,.int .i64 st.ev]
theorem ZY.other {sz d:Nat} {L0 L1 L2:List Blk} {v w:IV} {rows rows':List (List IV)} (h:ZY sz L0 L1 v rows) (p:ZY d L0 L1 w rows') (l:sz≠d) (q:Keep (fun t=>∃n,w=.sl t 0 n n) L1 L2):ZY sz L0 L2 v rows:=by
 rcases h with h | ⟨g,rfl,hg,j,m⟩
 ·exact .inl h
 ·refine .inr ⟨g,rfl,q.get hg ?_,j,m⟩
  rintro ⟨n,rfl⟩
  rcases p with ⟨h,_⟩ | ⟨r,h,b,_⟩
  ·cases h
  ·injection h with h
   subst h
   rw [hg] at b
   simp at b
   exact l b.1
theorem z8F (hP:E.P=Tryz.prog) {st:StV}:XT E 67 [.agg st.cells] L fun r L'=>r=.tup []/\Keep none' L L':=by
 have ln:lenOf .nsl=some 0:=rfl
 have di:cellsOf (.agg st.cells)=st.cells:=rfl
 have dh:st.cells.length=9:=rfl
 refine xt1 (fn:=Tryz.f67) (rs:=[]) (c:=q67) hP fun ρ h0=>?_
 unfold q67
 simp only [h0,di,dh,go_sem]
 obtain ⟨b,hb⟩:∃b,L.length=b:=⟨_,rfl⟩
 have kA:Keep none' L (L++[Blk.cells 9 [st.cells]]):=Keep.app Keep.refl
 have gA:(L++[Blk.cells 9 [st.cells]])[b]?=some (.cells 9 [st.cells]):=by rw [<-hb];simp
 rw [hb]
 generalize L++[Blk.cells 9 [st.cells]]=LA at *
 have lA:=zg gA
 have ai:=gA
 unfold StV.cells at ai
 refine zC (fun n ρ M=>n=0/\M=LA/\ρ 1=.ptr b 0 0/\ρ 2=.int .i64 0) ⟨rfl,rfl,by simp only [go_sem],by simp only [go_sem]<;>rfl⟩ ?_
 clear h0 ρ
 rintro n ρ M ⟨rfl,rfl,h1,h2⟩
 simp only [h1,h2,ai,zt ln,go_sem]
 refine zC (fun n ρ M1=>∃i:Nat,i<=10/\n=10 - i/\ρ 1=.ptr b 0 0/\ρ 3=.int .i64 i/\Keep none' L M1/\∃vn vs,M1[b]?=some (.cells 9 [stN st vn vs])/\ZY 3 L M1 vn (List.replicate i [.int .i64 (-2),.int .i64 0,.str []])/\ZY 2 L M1 vs (List.replicate i [.str [103,114,111,119,110],.str []]))
  ⟨0,od,rfl,by simp only [h1,go_sem],by simp only [go_sem]<;>rfl,kA,.nsl,.nsl,gA,.inl ⟨rfl,rfl⟩,.inl ⟨rfl,rfl⟩⟩ ?_
 clear h1 h2 ρ
 rintro n ρ M1 ⟨i,hi,rfl,h1,h3,kM,vn,vs,I,J,U⟩
 have lb:=zg I
 have bg:=I
 unfold stN at bg
 have dw:=zf I
 by_cases hc:i<10
 ·have O:((i:Int)<10)=True:=tO
  have w1:IntKind.i64.wrap ((i:Int)+1)=((i+1:Nat):Int):=wR
  simp only [h1,h3,O,bg,go_sem]
  refine z2B J kM (by rw [List.length_replicate];omega) (by decide) (fun r v=>by simp only [List.mem_singleton] at v;subst v;exact ⟨rfl,rfl⟩) (fun w M2 k2 bn T=>?_)
  rcases T with ⟨_,e⟩ | ⟨A,rfl,S,Z,_⟩
  ·simp at e
  have u:=bn.get I fun ⟨n,h⟩=>by
   rcases J with ⟨rfl,_⟩ | ⟨g',rfl,s,_⟩
   ·cases h
   ·injection h with h;subst h;rw [I] at s;simp at s
  have df:=zg u
  have ag:=u
  unfold stN at ag
  simp only [h1,ag,df,go_sem]
  have ak:=U.other J (by decide) bn
  have au:¬A=b:=fun h=>by subst h;rw [u] at S;simp at S
  have er:(List.replicate i ([.int .i64 (-2),.int .i64 0,.str []]:List IV)++[([.int .i64 (-2),.int .i64 0,.str []]:List IV)]).length=i+1:=by simp
  rw [er]
  obtain ⟨M3,m⟩:∃M3,M2.set b (.cells 9 [[.str st.dfn,.str st.id,.str st.par,.str st.pn,.int .i64 st.st,.str st.txt,.sl A 0 (i+1) (i+1),vs,.int .i64 st.ev]])=M3:=⟨_,rfl⟩
  have bz:M3.length=M2.length:=by rw [<-m,lls]
  have k3:Keep none' L M3:=by rw [<-m];exact Keep.set k2 fun h=>by have:=zf gA;omega
  have ax:M3[b]?=some (.cells 9 [stN st (.sl A 0 (i+1) (i+1)) vs]):=by rw [<-m];exact List.getElem?_set_self (zf u)
  have ay:M3[A]?=some (.cells 3 (List.replicate (i+1) [.int .i64 (-2),.int .i64 0,.str []])):=by rw [<-m,List.getElem?_set_ne fun h=>au h.symm,List.replicate_succ'];exact S
  have X:ZY 3 L M3 (.sl A 0 (i+1) (i+1)) (List.replicate (i+1) [.int .i64 (-2),.int .i64 0,.str []]):=.inr ⟨A,by simp,ay,Z,by simp⟩
  have q:ZY 2 L M3 vs (List.replicate i [.str [103,114,111,119,110],.str []]):=by
   rcases ak with h | ⟨g,rfl,hg,R,hn⟩
   ·exact .inl h
   ·refine .inr ⟨g,rfl,?_,R,hn⟩
    have:¬b=g:=fun h=>by subst h;rw [u] at hg;simp at hg
    rw [<-m,List.getElem?_set_ne this];exact hg
  rw [m,<-bz]
  refine z2B q k3 (by rw [List.length_replicate];omega) (by decide) (fun r v=>by simp only [List.mem_singleton] at v;subst v;exact ⟨rfl,rfl⟩) (fun w M4 k4 ah V=>?_)
  rcases V with ⟨_,e⟩ | ⟨G,rfl,d,D,_⟩
  ·simp at e
  have l:=ah.get ax fun ⟨n,h⟩=>by
   rcases q with ⟨rfl,_⟩ | ⟨g',rfl,s,_⟩
   ·cases h
   ·injection h with h;subst h;rw [ax] at s;simp at s
  have Y:=zg l
  have p:=l
  unfold stN at p
  have af:=X.other q (by decide) ah
  have es:(List.replicate i ([.str [103,114,111,119,110],.str []]:List IV)++[([.str [103,114,111,119,110],.str []]:List IV)]).length=i+1:=by simp
  rw [es]
  simp only [h1,h3,p,Y,w1,go_sem]
  have Q:¬b=G:=fun h=>by subst h;rw [l] at d;simp at d
  have cu:¬b=A:=fun h=>au h.symm
  refine ⟨10 - (i+1),od,i+1,od,rfl,rfl,Keep.set k4 fun h=>by have:=kA.1;have:=zf gA;omega,.sl A 0 (i+1) (i+1),.sl G 0 (i+1) (i+1),rfl,?_,?_⟩
  ·rcases af with ⟨h,_⟩ | ⟨g,h,hg,R,hn⟩
   ·cases h
   ·injection h with h;subst h
    exact .inr ⟨A,by simp,by rw [List.getElem?_set_ne cu];exact hg,R,hn⟩
  ·exact .inr ⟨G,by simp,by rw [List.getElem?_set_ne Q,List.replicate_succ'];exact d,D,by simp⟩
 ·have O:((i:Int)<10)=False:=fO
  simp only [h3,O,go_sem]
  have aj:i=10:=by omega
  subst aj
  rcases U with ⟨_,e⟩ | ⟨G,rfl,d,D,_⟩
  ·simp at e
  have Q:¬G=b:=fun h=>by subst h;rw [I] at d;simp at d
  have az:lenOf (.sl G 0 10 10)=some 10:=rfl
  refine zC (fun n ρ M=>∃j:Nat,j<=10/\n=10 - j/\ρ 1=.ptr b 0 0/\ρ 4=.int .i64 j/\Keep none' L M/\M[b]?=some (.cells 9 [stN st vn (.sl G 0 10 10)])/\∃rows,M[G]?=some (.cells 2 rows)/\rows.length=10/\Rows 2 rows)
   ⟨0,od,rfl,by simp only [h1,go_sem],by simp only [go_sem]<;>rfl,kM,I,_,d,by simp,fun r v=>by rw [List.eq_of_mem_replicate v];rfl⟩ ?_
  clear h1 h3 ρ
  rintro n ρ M5 ⟨j,hj,rfl,h1,h4,k5,l,rows,bf,bu,ae⟩
  have Y:=zg l
  have dm:=zg bf
  have p:=l
  unfold stN at p
  by_cases hc:j<10
  ·have O:((j:Int)<10)=True:=tO
   have e0:((0:Int)<=(j:Int))=True:=tO
   have n1:(j<rows.length)=True:=tO
   have w1:IntKind.i64.wrap ((j:Int)+1)=((j+1:Nat):Int):=wR
   obtain ⟨row,B⟩:∃row,rows[j]?=some row:=⟨rows[j],List.getElem?_eq_getElem od⟩
   have dn:rows.getD j []=row:=by rw [List.getD_eq_getElem?_getD,B];rfl
   have bi:row.length=2:=ae row (List.mem_of_getElem? B)
   match row,bi with
   | [x0,x1],_=>
   simp only [h1,h4,O,e0,n1,p,bf,dm,Yk,zt az,dn,w1,Nat.zero_add,Int.toNat_natCast,go_sem]
   refine ⟨10 - (j+1),od,j+1,od,rfl,rfl,Keep.set k5 fun h=>by omega,by rw [List.getElem?_set_ne Q];exact l,_,rfl,by rw [lls];exact bu,fun r v=>?_⟩
   rcases List.mem_or_eq_of_mem_set v with h | rfl
   ·exact ae r h
   ·rfl
  ·have O:((j:Int)<10)=False:=fO
   simp only [h1,h4,O,p,zt az,go_sem]
   exact k5
def q14 : XC :=(sO [oO 3 (.box (.t 1)),oV 4 (.bool false)] (.seq (.drawE [oM 12 0,oN 13 12,oF 14 5 13,oL 15 14,oO 16 (.loadN 17 (.t 3)),oC 17 53 [.t 15,.t 16],oM 5 17]) (.seq (.drawE [oM 19 0,oN 20 19,oF 21 4 20,oL 22 21,oM 23 0,oN 24 23,oF 25 3 24,oL 26 25,oO 27 (.loadN 17 (.t 3)),oC 28 10 [.t 22,.t 26,.t 27],oM 18 28,oX 29 0 18,oX 30 1 18,oM 6 29,oM 7 30]) (.seq (sO [oM 31 5,oK 32 .neq 31 0] (cT 32 (sO [oM 33 7,oM 34 5,oB 35 .eql 33 34,oM 36 35,oG 37 36 true (.mov (.t 6)),oG 38 36 true (.len (.t 37)),oG 39 36 true (.bin .eql (.t 38) (oi 0)),oO 40 (.pick (.t 36) (.t 39) (.c (.bool false))),oM 4 40] .ret) .skip)) (.seq (.drawE [oM 42 0,oN 43 42,oF 44 5 43,oL 45 44,oO 46 (.loadN 17 (.t 3)),oM 47 0,oN 48 47,oF 49 6 48,oL 50 49,oM 51 0,oN 52 51,oF 53 7 52,oL 54 53,oC 55 54 [.t 45,.t 46,.t 50,.t 54],oM 41 55,oX 56 0 41,oX 57 1 41,oX 58 2 41,oM 8 56,oM 9 57,oM 10 58]) (sO [oM 59 0,oM 60 0,oM 61 8,oM 62 10,oN 63 59,oF 64 5 63,oS 64 61,oN 65 60,oF 66 7 65,oS 66 62] (sO [oM 67 7,oK 68 .eql 67 0,oM 69 68,oG 70 69 true (.mov (.t 6)),oG 71 69 true (.mov (.t 9)),oG 72 69 true (.call (.f 55) [.t 70,.t 71]),oO 73 (.pick (.t 69) (.t 72) (.c (.bool false))),oM 11 73] (sO [oM 74 6,oC 75 56 [.t 74]] (sO [oM 76 11,oM 77 76,oG 78 77 true (.mov (.t 0)),oG 79 77 true (.nilck (.t 78)),oG 80 77 true (.fldA 3 (.t 79)),oG 81 77 true (.load1 (.t 80)),oG 82 77 true (.call (.f 57) [.t 81]),oG 83 77 true (.mov (.t 10)),oG 84 77 true (.bin .eql (.t 82) (.t 83)),oO 85 (.pick (.t 77) (.t 84) (.c (.bool false))),oM 4 85] .ret)))))))))
theorem za6 (b:E.P=Tryz.prog) {rq an:List UInt8} {o:Option (List (List UInt8 × List UInt8))} (d:rq.length<=256) (ha:an.length<=4096):zD E 53 [yH faa o,.agg (wF (.isl []) faa rq an)] (.int .i64 0):=z3E b d ha
theorem z7B (D:E.P=Tryz.prog) {p t s dk c x N m:Nat} {FS:Nat->Prop} {d:KV} {kn:Option StV} {l:List RqV} {rq an:List UInt8} {o:Option (List (List UInt8 × List UInt8))} (bn:E.gl 6=some dbT) (gp:L[p]?=some (plB t s dk (.ptr c 0 0) (.ptr x 0 0) (yH faa o) 1 0)) (gx:L[x]?=some (exB s)) (X:L[c]?=some (Wu t s 1 (fl 1) (fl 0) true)) (hS:zl L s FS N ((1:Nat):Int) d) (Z:¬FS p) (J:¬FS c)
  (hN:d.length<=800000) (dm:N+1000000<=1099511627776) (dh:∀p∈d,p.1.length<=1000) (hf:YH d kn) (df:(kn.getD Vl).ev=0) (hd:d.list [114,47,48,48,48,47]=jC l) (ho:∀q∈l,q.ok) (ah:l.length<=64) (M:(l=[]/\m=0)\/∃(a:List RqV) (q:RqV) (n:Nat),l=a++[q]/\q.key=rqK n/\m=n+1) (aj:Nums l m) (hm:m<1000000)
  (T:rq≠[]) (R:rq.length<=256) (U:an.length<=4096) (au:gok d (z2r (strOf st0.bytes) l rq an m)) (bu:(knO o).length<=64) :
  XT E 14 [.ptr p 0 0,.agg (z2s 0 .nsl st0 .nsl rq an 0 0)] L fun r L'=>r=.bool true/\L'[p]?=some (plB t s dk (.ptr c 0 0) (.ptr x 0 0) (yH faa (some (yf (knO o) rq an))) 1 0)/\(∃FS',zl L' s FS' (N+1000000) ((1:Nat):Int) (d.puts (z2r (strOf st0.bytes) l rq an m))/\Grown FS FS' L L')/\Keep (fun u=>u=p\/FS u) L L':=by
 have ed:=zf gp
 have eu:=zf X
 have bf:¬p=c:=fun h=>by subst h;rw [gp] at X;simp [plB,Wu] at X
 have af:=hS.lt.2.2
 have bi:cellsOf (.agg [.str faa,.int .i64 0,.nsl,.str [],.str faa,.str [],.str [],.int .i64 0,.str [],.nsl,.nsl,.int .i64 0,.nsl,.str rq,.str an,.int .i64 0,.int .i64 0])=[.str faa,.int .i64 0,.nsl,.str [],.str faa,.str [],.str [],.int .i64 0,.str [],.nsl,.nsl,.int .i64 0,.nsl,.str rq,.str an,.int .i64 0,.int .i64 0]:=rfl
 refine xt2 (fn:=Tryz.f14) (rs:=[.tmp 4]) (c:=q14) D fun ρ S h1=>?_
 unfold q14
 have ai:ρ 1=.agg [.str faa,.int .i64 0,.nsl,.str [],.str faa,.str [],.str [],.int .i64 0,.str [],.nsl,.nsl,.int .i64 0,.nsl,.str rq,.str an,.int .i64 0,.int .i64 0]:=h1
 clear h1
 have B:=gp
 have lp:=zg gp
 unfold plB at B
 simp only [S,ai,bi,B,lp,go_sem]
 obtain ⟨u,j⟩:∃u,L.length=u:=⟨_,rfl⟩
 have v:Keep none' L (L++[Blk.cells 17 [[.str faa,.int .i64 0,.nsl,.str [],.str faa,.str [],.str [],.int .i64 0,.str [],.nsl,.nsl,.int .i64 0,.nsl,.str rq,.str an,.int .i64 0,.int .i64 0]]]):=Keep.app Keep.refl
 have gA:(L++[Blk.cells 17 [[.str faa,.int .i64 0,.nsl,.str [],.str faa,.str [],.str [],.int .i64 0,.str [],.nsl,.nsl,.int .i64 0,.nsl,.str rq,.str an,.int .i64 0,.int .i64 0]]])[u]?=some (.cells 17 [[.str faa,.int .i64 0,.nsl,.str [],.str faa,.str [],.str [],.int .i64 0,.str [],.nsl,.nsl,.int .i64 0,.nsl,.str rq,.str an,.int .i64 0,.int .i64 0]]):=by rw [<-j];simp
 rw [j]
 generalize gm:L++[Blk.cells 17 [[.str faa,.int .i64 0,.nsl,.str [],.str faa,.str [],.str [],.int .i64 0,.str [],.nsl,.nsl,.int .i64 0,.nsl,.str rq,.str an,.int .i64 0,.int .i64 0]]]=LA at *
 have lA:=zg gA
 have w:=v.get B fun h=>h
 have dn:=zg w
 refine zi (args':=[yH faa o,.agg (wF (.isl []) faa rq an)]) (by cases o<;>rfl) (za6 (E:=E.noPan) D R U) rfl ?_
 simp only [S,gA,w,go_sem]
 show vJ E.noPan 10 [.ptr x 0 0,.ptr c 0 0,.agg (z2s 0 .nsl st0 .nsl rq an 0 0)] _ _
 have bg:=hS.keep v fun _ _ h=>h
 refine zh (zbw (E:=E.noPan) (kn:=kn) (l:=l) (m:=m) (rq:=rq) (an:=an) D bn (v.get gx fun h=>h) (v.get X fun h=>h) bg J hN dm dh hf df hd ho ah M aj hm T R U au) ?_
 rintro r L2 ⟨rfl,⟨FS',ax,Y⟩,k2⟩
 have ae:=k2.get gA fun h=>by have:=af _ h;omega
 have b:=k2.get w Z
 have bz:=k2.get (v.get X fun h=>h) J
 have gu:=zg ae
 have az:=zg b
 have ay:∀u,FS' u->¬u=p/\¬u=c:=fun u j=>by
  have:=v.1
  rcases Y u j with h | h
  ·exact ⟨fun h2=>Z (h2▸h),fun h2=>J (h2▸h)⟩
  ·exact ⟨od,od⟩
 simp only [S,ae,b,go_sem]
 refine zi (args':=[yH faa o,.agg (wF (.isl []) faa rq an),.int .i64 1,.int .i64 0]) (by cases o<;>rfl) (z9t (E:=E.noPan) D T bu) rfl ?_
 obtain ⟨Q,G⟩:∃Q,yH faa (some (yf (knO o) rq an))=Q:=⟨_,rfl⟩
 have di:cellsOf Q=[Q]:=by rw [<-G];rfl
 have ak:zG Q=true:=by rw [<-G];rfl
 rw [G]
 simp only [S,b,az,di,ak,go_sem]
 rw [List.set_set]
 obtain ⟨L3,O⟩:∃L3,L2.set p (Blk.cells 8 [[.ptr t 0 0,.ptr s 0 0,.ptr dk 0 0,.ptr c 0 0,.ptr x 0 0,Q,.int .i64 1,.int .i64 0]])=L3:=⟨_,rfl⟩
 have k3:Keep (fun u=>u=p) L2 L3:=by rw [<-O];exact Keep.set Keep.refl fun _=>rfl
 have V:L3[p]?=some (.cells 8 [[.ptr t 0 0,.ptr s 0 0,.ptr dk 0 0,.ptr c 0 0,.ptr x 0 0,Q,.int .i64 1,.int .i64 0]]):=by rw [<-O];exact List.getElem?_set_self (zf b)
 have cu:=k3.get bz fun h=>bf h.symm
 have gq:=zg V
 rw [O]
 refine zi (args':=[.isl [],.isl []]) rfl (wQ (E:=E.noPan) D) rfl ?_
 simp only [go_sem]
 refine zh (z2Z (E:=E.noPan) D) ?_
 rintro r L4 ⟨rfl,k4⟩
 have A:=k4.get V fun h=>h
 have ag:=k4.get cu fun h=>h
 have dw:=zg A
 simp only [S,A,go_sem]
 refine zh (zac (E:=E.noPan) (n:=1) (m:=0) D ag od) ?_
 rintro r L5 ⟨rfl,rfl⟩
 simp only [go_sem]
 have I:Keep (fun u=>u=p) L2 L5:=k3.trans k4 fun _ _ h=>h.elim
 refine ⟨A,⟨FS',ax.keep I fun u h1 h2=>(ay u h1).1 h2,fun u j=>?_⟩,?_⟩
 ·have:=v.1
  have:=I.1
  rcases Y u j with h | h
  ·exact .inl h
  ·right;omega
 ·refine ((v.mono (F':=fun u=>u=p\/FS u) fun _ _ h=>h.elim).trans k2 fun u j h=>.inr h).trans I fun u j h=>.inl h
def q63 : XC :=(sO [oO 2 (.mov (.c (.raw (.complex .f64 0 0))))] (sO [oM 8 0,oN 9 8,oF 10 0 9,oL 11 10,oO 12 (.call (.f 122) [.t 11,(.c (.str [108]))]),oM 7 12,oX 13 0 7,oX 14 1 7,oM 3 13,oM 4 14] (sO [oM 16 3,oC 17 131 [.t 16],oM 15 17,oX 18 0 15,oX 19 1 15,oM 5 18,oM 6 19] (sO [oM 20 5,oM 2 20] .ret))))
def q69 : XC :=(sO [oV 2 .nsl] (sO [oM 3 0,oO 4 (.call (.f 123) [.t 3,(.c (.str [97,47]))]),oM 2 4] .ret))
def q71 : XC :=(sO [oV 4 .nsl] (.seq (sO [oM 11 0,oM 12 1,oC 13 25 [.t 11,.t 12],oO 14 (.un .not (.t 13))] (cT 14 (sO [oV 4 .nsl] .ret) .skip)) (sO [oV 5 .nsl] (.seq (.seq (.drawE [oM 15 0,oN 16 15,oF 17 0 16,oL 18 17,oM 19 1,oQ 20 133 [.t 19],oC 21 33 [.t 18,.t 20,(oi 2147483648)],oY 22 21,oI 23 0]) (.block 0 (.loop (sO [oB 24 .lss 23 22] (.seq (cT 24 .skip (.exit 0)) (.seq (.block 1 (sO [oO 25 (.idxS 2 (.t 21) (.t 23)),oO 26 (.loadN 2 (.t 25)),oO 7 (.alloc [(.str []),(.str [])]),oU (.store 2 (.t 7) (.t 26))] (sO [oF 28 1 7,oL 29 28,oO 30 (.ex (.strB 5) [.t 29]),oC 31 134 [.t 30],oM 27 31,oX 32 0 27,oX 33 1 27,oX 34 2 27,oO 8 (.alloc [(.int .i64 0),(.int .i64 0),(.int .i64 0),(.int .i64 0),(.int .i64 0),(.str []),(.str []),(.str []),(.str []),(.str []),(.int .i64 0)]),oU (.store 11 (.t 8) (.t 32)),oM 9 33,oM 10 34] (.ops [oM 35 5,oO 36 (.loadN 11 (.t 8)),oO 37 (.bslice 11 [(.int .i64 0),(.int .i64 0),(.int .i64 0),(.int .i64 0),(.int .i64 0),(.str []),(.str []),(.str []),(.str []),(.str []),(.int .i64 0)] 1 [(0,(.t 36))]),oO 38 (.append 11 128 (.t 35) (.t 37)),oM 5 38])))) (.ops [oK 39 .add 23 1,oM 23 39]))))))) (sO [oM 40 5,oM 4 40] .ret)))))
def q72 : XC :=(sO [oI 4 0] (.seq (sO [oM 5 0,oM 6 1,oC 7 25 [.t 5,.t 6],oO 8 (.un .not (.t 7))] (cT 8 (sO [oI 4 0] .ret) .skip)) (sO [oM 9 0,oM 10 1,oC 11 88 [.t 10],oC 12 49 [.t 9,.t 11],oM 4 12] .ret)))
def zaK (k:Nat):List UInt8:=[111,47,48,(48+k).toUInt8,47]
def zg0 (k:Nat):List UInt8:=[112,47,48,(48+k).toUInt8]
theorem z7H (k:Nat):(zaK k).length<=1000:=by show 5<=1000;decide
theorem z2e (b:E.P=Tryz.prog) {k:Nat} (d:k<3):zD E 133 [.int .i64 k] (.str (zaK k)):=by
 match k,d with
 | 0,_=>exact z0n b
 | 1,_=>exact z0m b
 | 2,_=>exact z0p b
theorem z2A (b:E.P=Tryz.prog) {k:Nat} (d:k<3):zD E 88 [.int .i64 k] (.str (zg0 k)):=by
 match k,d with
 | 0,_=>exact z1G b
 | 1,_=>exact z1N b
 | 2,_=>exact z2o b
theorem zbo (p:E.P=Tryz.prog) {{x s N:Nat}} {{F:Nat->Prop}} {{b:Int}} {{d:KV}} {st1:StV} (Z:L[x]?=some (exB s)) (h:zl L s F N b d) (hN:d.length<=900000) (G:YH d (some st1)) :
  XT E 64 [.ptr x 0 0,.str faa] L fun r L'=>r=.tup [.agg st1.cells,.bool true]/\L'=L:=by
 refine za1 (R:=fun r L'=>r=.tup [.agg st1.cells,.bool true]/\Keep none' L L') ?_ ?_
 rotate_left
 ·rintro r L' ⟨rfl,hk⟩
  exact ⟨hk,rfl,rfl⟩
 have lx:=zg Z
 refine xt2 (fn:=Tryz.f64) (rs:=[.cellN 4 9,.tmp 5]) (c:=q64) p fun ρ h0 h1=>?_
 unfold q64
 simp only [h0,h1,go_sem]
 have D:Keep none' L (L++[Blk.cells 9 [StV.zero]]):=Keep.app Keep.refl
 obtain ⟨Y,A⟩:∃Y,L.length=Y:=⟨_,rfl⟩
 have M:(L++[Blk.cells 9 [StV.zero]])[Y]?=some (.cells 9 [StV.zero]):=by rw [<-A];simp
 rw [A]
 obtain ⟨LA,w⟩:∃LA,L++[Blk.cells 9 [StV.zero]]=LA:=⟨_,rfl⟩
 have q:L++[Blk.cells 9 [[.str [],.str [],.str [],.str [],.int .i64 0,.str [],.nsl,.nsl,.int .i64 0]]]=LA:=w
 rw [q]
 rw [w] at D M
 have j:=D.get Z fun h=>h
 have u:zl LA s F N b d:=h.keep D fun _ _ h=>h
 have af:=zg j
 have lA:=zg M
 refine zh (YS (E:=E.noPan) p j u hN G) ?_
 rintro r L' ⟨rfl,rfl⟩
 have e1:(some st1).isSome=true:=rfl
 have ag:_=_:=G.1
 have V:_=_:=G.2.1
 have l:st1.ok:=G.2.2
 have hp:=l.plain
 have ae:=l.bytes_le
 unfold exB at j
 simp only [h0,e1,j,go_sem]
 refine zY (args':=[.int .i64 0]) rfl (Yc (E:=E.noPan) p) (fun _=>rfl) ?_
 simp only [go_sem]
 refine zh (z2G (E:=E.noPan) p u _) ?_
 rintro r L1 ⟨rfl,rfl⟩
 unfold zbb
 rw [V]
 have e2:(some (strOf st1.bytes)).getD []=strOf st1.bytes:=rfl
 have f1:((strOf st1.bytes).length<=9223372036854775807)=True:=eq_true (by rw [hp.len];omega)
 simp only [e2,f1,go_sem]
 obtain ⟨I,B⟩:∃I,L1.length=I:=⟨_,rfl⟩
 have gt:(L1++[Blk.tcells 5 1 (zk (strOf st1.bytes))])[I]?=some (.tcells 5 1 (zk (strOf st1.bytes))):=by rw [<-B];simp
 have kT:Keep none' L1 (L1++[Blk.tcells 5 1 (zk (strOf st1.bytes))]):=Keep.app Keep.refl
 rw [B]
 generalize L1++[Blk.tcells 5 1 (zk (strOf st1.bytes))]=L2 at *
 refine zh (z9S (args':=[.isl st1.bytes]) gt rfl (z3V gt hp.rows) (Vt (E:=E.noPan) p l)) ?_
 rintro r L3 ⟨rfl,k3⟩
 have kD:Keep none' L1 (L2.set I .dead):=Keep.set kT fun h=>by omega
 have m:=kD.trans k3 fun _ _ h=>h
 have v:=m.get M fun h=>h
 have O:=zg v
 have J:cellsOf (.agg st1.cells)=st1.cells:=rfl
 have X:st1.cells.length=9:=rfl
 have U:st1.cells.all zG=true:=rfl
 have Q:st1.cells.take 9=st1.cells:=rfl
 have S:StV.zero.drop 9=[]:=rfl
 have T:StV.zero.length=9:=rfl
 simp only [v,O,J,X,U,Q,S,T,List.append_nil,Y6,Zk,ZJ,WH,go_sem]
 exact ⟨rfl,Keep.set (Keep.app ((D.trans m fun _ _ h=>h))) fun h=>by omega⟩
theorem z7i (m:E.P=Tryz.prog) {{x s N:Nat}} {{F:Nat->Prop}} {{b:Int}} {{d:KV}} {kn:Option StV} (q:L[x]?=some (exB s)) (h:zl L s F N b d) (B:d.length<=900000) (v:∀p∈d,p.1.length<=1000) (J:YH d kn) (I:d.list [101,47,48,48,48,47]=[]) :
  XT E 9 [.ptr x 0 0,.str faa] L fun r L'=>r=.nsl/\Keep none' L L':=by
 have M:=zg q
 refine xt2 (fn:=Tryz.f9) (rs:=[.tmp 4]) (c:=q9) m fun ρ A h1=>?_
 unfold q9
 simp only [A,h1,go_sem]
 refine zh (YS (E:=E.noPan) m q h B J) ?_
 rintro r L' ⟨rfl,rfl⟩
 have l:=q
 unfold exB at l
 rcases Bool.eq_false_or_eq_true kn.isSome with j | j
 ·simp only [A,j,l,go_sem]
  refine zY (args':=[.int .i64 0]) rfl (WG (E:=E.noPan) m) (fun _=>rfl) ?_
  simp only [go_sem]
  refine zh (Jw (E:=E.noPan) m h B (by decide) v) ?_
  rintro r L1 ⟨rfl,rfl⟩
  rw [I]
  have D:lenOf (.isl (ZT []))=some 0:=rfl
  simp only [zt D,go_sem]
  refine zC (fun n ρ L=>n=0/\L=L1/\ρ 28=.int .i64 0/\ρ 29=.int .i64 0/\ρ 7=.nsl) ⟨rfl,rfl,by simp only [go_sem]<;>rfl,by simp only [go_sem],by simp only [go_sem]⟩ ?_
  clear A h1 ρ
  rintro n ρ L2 ⟨rfl,rfl,w,u,G⟩
  simp only [w,u,G,go_sem]
  exact Keep.refl
 ·simp only [j,go_sem]
  exact Keep.refl
theorem zcj (l:E.P=Tryz.prog) {{x s N:Nat}} {{F:Nat->Prop}} {{b:Int}} {{d:KV}} (j:L[x]?=some (exB s)) (h:zl L s F N b d) (m:d.get [108]=none) :
  XT E 63 [.ptr x 0 0] L fun r L'=>r=.raw (.complex .f64 0 0)/\L'=L:=by
 have q:=zg j
 unfold exB at j
 refine xt1 (fn:=Tryz.f63) (rs:=[.tmp 2]) (c:=q63) l fun ρ p=>?_
 unfold q63
 simp only [p,j,go_sem]
 refine zh (z2G (E:=E.noPan) l h _) ?_
 rintro r L1 ⟨rfl,rfl⟩
 unfold zbb
 rw [m]
 have e1:(none:Option (List UInt8)).getD []=[]:=rfl
 simp only [e1,go_sem]
 refine zi (args':=[.str []]) rfl (z7X (E:=E.noPan) l) rfl ?_
 simp only [go_sem]
theorem z5o (m:E.P=Tryz.prog) {{x s N:Nat}} {{F:Nat->Prop}} {{b:Int}} {{d:KV}} (u:L[x]?=some (exB s)) (h:zl L s F N b d) (A:d.length<=900000) (j:∀p∈d,p.1.length<=1000) (w:d.list [97,47]=[]) :
  XT E 69 [.ptr x 0 0] L fun r L'=>r=.isl []/\L'=L:=by
 refine xt1 (fn:=Tryz.f69) (rs:=[.tmp 2]) (c:=q69) m fun ρ B=>?_
 unfold q69
 simp only [B,go_sem]
 refine zh (z5Z (E:=E.noPan) (l:=[]) m u h A (by decide) j w (fun q v=>nomatch v) (by decide)) ?_
 rintro r L' ⟨rfl,rfl⟩
 simp only [go_sem]
 rfl
theorem z0j (m:E.P=Tryz.prog) {{x s N:Nat}} {{F:Nat->Prop}} {{b:Int}} {{d:KV}} (u:L[x]?=some (exB s)) (h:zl L s F N b d) (D:d.length<=900000) (j:∀p∈d,p.1.length<=1000) (A:d.list [100,47]=[]) :
  XT E 50 [.ptr x 0 0] L fun r L'=>r=.nsl/\Keep none' L L':=by
 refine xt1 (fn:=Tryz.f50) (rs:=[.tmp 2]) (c:=q50) m fun ρ G=>?_
 unfold q50
 simp only [G,go_sem]
 refine zh (z3L (E:=E.noPan) (l:=[]) m u h D (by decide) j A (fun q w=>nomatch w) (by decide)) ?_
 rintro r L' ⟨v,B⟩
 rcases v with ⟨rfl,_⟩ | ⟨g,rfl,J,M,I⟩
 ·simp only [go_sem]
  exact B
 ·exact (I rfl).elim
theorem z5E (l:E.P=Tryz.prog) {{x s N:Nat}} {{F:Nat->Prop}} {{b:Int}} {{d:KV}} {k:Nat} (q:L[x]?=some (exB s)) (h:zl L s F N b d) (I:d.length<=900000) (v:∀p∈d,p.1.length<=1000) (m:k<3) (G:d.list (zaK k)=[]) :
  XT E 71 [.ptr x 0 0,.int .i64 k] L fun r L'=>r=.isl []/\L'=L:=by
 refine zU (R:=fun r L'=>r=.nsl/\Keep none' L L') ?_ ?_
 ·skip
  have J:=zg q
  refine xt2 (fn:=Tryz.f71) (rs:=[.tmp 4]) (c:=q71) l fun ρ A h1=>?_
  unfold q71
  simp only [A,h1,go_sem]
  refine zh (J9 (E:=E.noPan) l q m) ?_
  rintro r L' ⟨rfl,rfl⟩
  have j:=q
  unfold exB at j
  simp only [A,h1,j,go_sem]
  refine zY (args':=[.int .i64 k]) rfl (z2e (E:=E.noPan) l m) (fun _=>rfl) ?_
  simp only [go_sem]
  refine zh (Jw (E:=E.noPan) l h I (z7H k) v) ?_
  rintro r L1 ⟨rfl,rfl⟩
  rw [G]
  have B:lenOf (.isl (ZT []))=some 0:=rfl
  simp only [zt B,go_sem]
  refine zC (fun n ρ L=>n=0/\L=L1/\ρ 22=.int .i64 0/\ρ 23=.int .i64 0/\ρ 5=.nsl) ⟨rfl,rfl,by simp only [go_sem]<;>rfl,by simp only [go_sem],by simp only [go_sem]⟩ ?_
  clear A h1 ρ
  rintro n ρ L2 ⟨rfl,rfl,u,w,D⟩
  simp only [u,w,D,go_sem]
  exact Keep.refl
 ·rintro r L' ⟨rfl,m⟩
  exact ⟨m,_,rfl,rfl⟩
theorem ze7 (j:E.P=Tryz.prog) {{x s N:Nat}} {{F:Nat->Prop}} {{b:Int}} {{d:KV}} {k n:Nat} (l:L[x]?=some (exB s)) (h:zl L s F N b d) (m:k<3) (q:z8E d (zg0 k) n):XT E 72 [.ptr x 0 0,.int .i64 k] L fun r L'=>r=.int .i64 n/\L'=L:=by
 refine xt2 (fn:=Tryz.f72) (rs:=[.tmp 4]) (c:=q72) j fun ρ p h1=>?_
 unfold q72
 simp only [p,h1,go_sem]
 refine zh (J9 (E:=E.noPan) j l m) ?_
 rintro r L' ⟨rfl,rfl⟩
 simp only [p,h1,go_sem]
 refine zi (args':=[.int .i64 k]) rfl (z2A (E:=E.noPan) j m) rfl ?_
 simp only [go_sem]
 refine zh (z5Q (E:=E.noPan) j l h q) ?_
 rintro r L' ⟨rfl,rfl⟩
 simp only [go_sem]
theorem z6n (d:E.P=Tryz.prog) {x s:Nat} {k:Int} (b:L[x]?=some (exB s)) (j:k=3\/k = -1):XT E 25 [.ptr x 0 0,.int .i64 k] L fun r L'=>r=.bool false/\L'=L:=by
 have l:=zg b
 unfold exB at b
 rcases j with rfl | rfl
 ·skip
  refine xt2 (fn:=Tryz.f25) (rs:=[.tmp 4]) (c:=q25) d fun ρ h h1=>?_
  unfold q25
  simp only [h,h1,b,go_sem]
 ·skip
  refine xt2 (fn:=Tryz.f25) (rs:=[.tmp 4]) (c:=q25) d fun ρ h h1=>?_
  unfold q25
  simp only [h1,go_sem]
theorem zdJ (b:E.P=Tryz.prog) {x s:Nat} (d:L[x]?=some (exB s)):XT E 72 [.ptr x 0 0,.int .i64 3] L fun r L'=>r=.int .i64 0/\L'=L:=by
 refine xt2 (fn:=Tryz.f72) (rs:=[.tmp 4]) (c:=q72) b fun ρ h h1=>?_
 unfold q72
 simp only [h,h1,go_sem]
 refine zh (z6n (E:=E.noPan) b d (.inl rfl)) ?_
 rintro r L' ⟨rfl,rfl⟩
 simp only [go_sem]
theorem zef (b:E.P=Tryz.prog) {x s:Nat} (d:L[x]?=some (exB s)):XT E 11 [.ptr x 0 0,.int .i64 (-1)] L fun r L'=>r=.int .i64 0/\L'=L:=by
 refine xt2 (fn:=Tryz.f11) (rs:=[.tmp 4]) (c:=q11) b fun ρ h h1=>?_
 unfold q11
 simp only [h,h1,go_sem]
 refine zh (z6n (E:=E.noPan) b d (.inr rfl)) ?_
 rintro r L' ⟨rfl,rfl⟩
 simp only [go_sem]
def zlH : XC :=(sO [oM 8 1,oK 9 .add 8 1,oM 6 9] (.block 0 (.loop (.seq (sO [oM 10 6,oM 11 2,oB 12 .lss 10 11] (cT 12 .skip (.exit 0))) (.seq (.block 1 (sO [oM 15 6,oM 7 15] (.block 2 (.loop (.seq (.seq (.drawE [oM 16 7,oM 17 1,oB 18 .gtr 16 17,oM 19 18,oG 20 19 true (.mov (.t 0)),oG 21 19 true (.mov (.t 7)),oG 22 19 true (.idxS 1 (.t 20) (.t 21)),oG 23 19 true (.load1 (.t 22)),oG 24 19 true (.mov (.t 0)),oG 25 19 true (.mov (.t 7)),oG 26 19 true (.bin .sub (.t 25) (oi 1)),oG 27 19 true (.idxS 1 (.t 24) (.t 26)),oG 28 19 true (.load1 (.t 27)),oG 29 19 true (.pcall (.f 209) [.t 23,.t 28]),oO 30 (.pick (.t 19) (.t 29) (.c (.bool false)))]) (cT 30 .skip (.exit 2))) (.seq (.block 3 (.drawE [oM 33 0,oM 34 7,oM 35 0,oM 36 7,oK 37 .sub 36 1,oM 38 0,oM 39 7,oK 40 .sub 39 1,oO 41 (.idxS 1 (.t 38) (.t 40)),oL 42 41,oM 43 0,oM 44 7,oO 45 (.idxS 1 (.t 43) (.t 44)),oL 46 45,oO 47 (.idxS 1 (.t 33) (.t 34)),oS 47 42,oO 48 (.idxS 1 (.t 35) (.t 37)),oS 48 46])) (.ops [oM 31 7,oK 32 .sub 31 1,oM 7 32]))))))) (.ops [oM 13 6,oK 14 .add 13 1,oM 6 14]))))))
def zlW : XC :=(sO [oV 8 (.bool true)] (sO [oV 9 (.bool true)] (.block 0 (.loop (.block 1 (sO [oM 19 2,oM 20 1,oB 21 .sub 19 20,oM 10 21] (.seq (sO [oM 22 10,oK 23 .leq 22 12] (cT 23 (sO [oM 24 0,oM 25 1,oM 26 2,oC 27 247 [.t 24,.t 25,.t 26]] .ret) .skip)) (.seq (sO [oM 28 3,oK 29 .eql 28 0] (cT 29 (sO [oM 30 0,oM 31 1,oM 32 2,oC 33 248 [.t 30,.t 31,.t 32]] .ret) .skip)) (.seq (sO [oM 34 8,oO 35 (.un .not (.t 34))] (cT 35 (sO [oM 36 0,oM 37 1,oM 38 2,oC 39 249 [.t 36,.t 37,.t 38]] (.ops [oM 40 3,oK 41 .sub 40 1,oM 3 41])) .skip)) (sO [oM 43 0,oM 44 1,oM 45 2,oC 46 250 [.t 43,.t 44,.t 45],oM 42 46,oX 47 0 42,oX 48 1 42,oM 11 47,oM 12 48] (.seq (sO [oM 49 12,oK 50 .eql 49 2] (cT 50 (sO [oM 51 0,oM 52 1,oM 53 2,oC 54 251 [.t 51,.t 52,.t 53]] (sO [oM 55 2,oK 56 .sub 55 1,oM 57 11,oM 58 1,oB 59 .sub 57 58,oB 60 .sub 56 59,oM 11 60] (.ops [oI 12 1]))) .skip)) (.seq (sO [oM 61 8,oM 62 61,oG 63 62 true (.mov (.t 9)),oO 64 (.pick (.t 62) (.t 63) (.c (.bool false))),oM 65 64,oG 66 65 true (.mov (.t 12)),oG 67 65 true (.bin .eql (.t 66) (oi 1)),oO 68 (.pick (.t 65) (.t 67) (.c (.bool false)))] (cT 68 (sO [oM 69 0,oM 70 1,oM 71 2,oC 72 252 [.t 69,.t 70,.t 71]] (cT 72 .ret .skip)) .skip)) (.seq (.seq (.drawE [oM 73 1,oK 74 .gtr 73 0,oM 75 74,oG 76 75 true (.mov (.t 0)),oG 77 75 true (.mov (.t 1)),oG 78 75 true (.bin .sub (.t 77) (oi 1)),oG 79 75 true (.idxS 1 (.t 76) (.t 78)),oG 80 75 true (.load1 (.t 79)),oG 81 75 true (.mov (.t 0)),oG 82 75 true (.mov (.t 11)),oG 83 75 true (.idxS 1 (.t 81) (.t 82)),oG 84 75 true (.load1 (.t 83)),oG 85 75 true (.pcall (.f 209) [.t 80,.t 84]),oG 86 75 true (.un .not (.t 85)),oO 87 (.pick (.t 75) (.t 86) (.c (.bool false)))]) (cT 87 (sO [oM 88 0,oM 89 1,oM 90 2,oM 91 11,oC 92 253 [.t 88,.t 89,.t 90,.t 91],oM 13 92] (sO [oM 93 13,oM 1 93] (.exit 1))) .skip)) (sO [oM 95 0,oM 96 1,oM 97 2,oM 98 11,oC 99 254 [.t 95,.t 96,.t 97,.t 98],oM 94 99,oX 100 0 94,oX 101 1 94,oM 14 100,oM 15 101] (sO [oM 102 15,oM 9 102] (sO [oM 103 14,oM 104 1,oB 105 .sub 103 104,oM 106 2,oM 107 14,oB 108 .sub 106 107,oM 16 105,oM 17 108] (sO [oM 109 10,oK 110 .quo 109 8,oM 18 110] (sO [oM 111 16,oM 112 17,oB 113 .lss 111 112] (cT 113 (sO [oM 114 16,oM 115 18,oB 116 .geq 114 115,oM 8 116] (sO [oM 117 0,oM 118 1,oM 119 14,oM 120 3,oC 121 189 [.t 117,.t 118,.t 119,.t 120]] (.ops [oM 122 14,oK 123 .add 122 1,oM 1 123]))) (sO [oM 124 17,oM 125 18,oB 126 .geq 124 125,oM 8 126] (sO [oM 127 0,oM 128 14,oK 129 .add 128 1,oM 130 2,oM 131 3,oC 132 189 [.t 127,.t 129,.t 130,.t 131]] (.ops [oM 133 14,oM 2 133]))))))))))))))))))))))
def zml : XC :=(sO [oM 3 0,oY 4 3,oM 2 4] (.ops [oM 5 0,oM 6 2,oM 7 2,oO 8 (.cvInt .u64 (.t 7)),oC 9 190 [.t 8],oC 10 189 [.t 5,(oi 0),.t 6,.t 9]]))
def q60 : XC :=(sO [oV 2 .nsl] (sO [oV 3 .nsl] (.seq (sO [oM 6 0,oN 7 6,oF 8 0 7,oL 9 8,oO 10 (.call (.f 33) [.t 9,(.c (.str [110,47])),(oi 2147483648)]),oY 11 10,oI 12 0] (.block 0 (.loop (sO [oB 13 .lss 12 11] (.seq (cT 13 .skip (.exit 0)) (.seq (.block 1 (sO [oO 14 (.idxS 2 (.t 10) (.t 12)),oO 15 (.loadN 2 (.t 14)),oO 5 (.alloc [(.str []),(.str [])]),oU (.store 2 (.t 5) (.t 15))] (.ops [oM 16 3,oF 17 1 5,oL 18 17,oO 19 (.bslice 1 [(.str [])] 1 [(0,(.t 18))]),oO 20 (.append 1 16 (.t 16) (.t 19)),oM 3 20]))) (.ops [oK 21 .add 12 1,oM 12 21]))))))) (sO [oM 22 3,oC 23 130 [.t 22]] (sO [oM 24 3,oM 2 24] .ret)))))
theorem z7d (b:E.P=Tryz.prog) {v:IV}:XT E 247 [v,.int .i64 0,.int .i64 1] L fun r L'=>r=.tup []/\L'=L:=by
 refine xt3 (fn:=Tryz.f247) (rs:=[]) (c:=zlH) b fun ρ d h1 h2=>?_
 unfold zlH
 simp only [YF,h1,go_sem]
 refine y7 ?_
 simp only [h2,go_sem]
theorem zbT (b:E.P=Tryz.prog) {v:IV}:XT E 189 [v,.int .i64 0,.int .i64 1,.int .i64 1] L fun r L'=>r=.tup []/\L'=L:=by
 refine xt4 (fn:=Tryz.f189) (rs:=[]) (c:=zlW) b fun ρ d h1 h2 h=>?_
 unfold zlW
 simp only [go_sem]
 refine y7 ?_
 simp only [YF,d,h1,h2,go_sem]
 refine zh (z7d (E:=E.noPan) b) ?_
 rintro r L' ⟨rfl,rfl⟩
 simp only [YF,go_sem]
theorem zjc (b:E.P=Tryz.prog) {v:IV} (d:lenOf v=some 1):XT E 130 [v] L fun r L'=>r=.tup []/\L'=L:=by
 refine xt1 (fn:=Tryz.f130) (rs:=[]) (c:=zml) b fun ρ h=>?_
 unfold zml
 simp only [wu64,h,zt d,go_sem]
 refine zi (args':=[.int .u64 1]) rfl (z1m (E:=E.noPan) b) rfl ?_
 simp only [wu64,go_sem]
 refine zh (zbT (E:=E.noPan) b) ?_
 rintro r L' ⟨rfl,rfl⟩
 simp only [wu64,go_sem]
theorem z9g (O:E.P=Tryz.prog) {x s N:Nat} {F:Nat->Prop} {l:Int} {d:KV} (Q:L[x]?=some (exB s)) (h:zl L s F N l d) (Z:d.length<=900000) (J:∀p∈d,p.1.length<=1000) (X:d.list [110,47]=[([110,47,48,48,48],faa)]) :
  XT E 60 [.ptr x 0 0] L fun r L'=>(∃g,r=.sl g 0 1 1/\L'[g]?=some (.cells 1 [[.str faa]])/\L.length<=g)/\Keep none' L L':=by
 have lx:=zg Q
 have u:=Q
 unfold exB at u
 refine xt1 (fn:=Tryz.f60) (rs:=[.tmp 2]) (c:=q60) O fun ρ B=>?_
 unfold q60
 simp only [B,u,go_sem]
 refine zh (Jw (E:=E.noPan) O h Z (by decide) J) ?_
 rintro r L1 ⟨rfl,rfl⟩
 rw [X]
 have U:lenOf (.isl (ZT [([110,47,48,48,48],faa)]))=some 1:=rfl
 simp only [zt U,go_sem]
 refine zC (fun n ρ M=>∃i:Nat,i<=1/\n=1 - i/\ρ 0=.ptr x 0 0/\ρ 10=.isl (ZT [([110,47,48,48,48],faa)])/\ρ 11=.int .i64 1/\ρ 12=.int .i64 i/\Keep none' L1 M/\ZY 1 L1 M (ρ 3) ([[.str faa]].take i))
  ⟨0,od,rfl,by simp only [B,go_sem],by simp only [go_sem],by simp only [go_sem]<;>rfl,by simp only [go_sem]<;>rfl,Keep.refl,.inl ⟨by simp only [go_sem],rfl⟩⟩ ?_
 clear B ρ
 rintro n ρ M ⟨i,hi,rfl,B,j,b,m,R,I⟩
 obtain ⟨v3,D⟩:∃v,ρ 3=v:=⟨_,rfl⟩
 rw [D] at I
 by_cases hc:i<1
 ·obtain rfl:i=0:=by omega
  have e1:ZT [([110,47,48,48,48],faa)]=[[.str [110,47,48,48,48],.str faa]]:=rfl
  have T:Rows 2 [[IV.str [110,47,48,48,48],IV.str faa]]=True:=eq_true (fun r A=>by simp only [List.mem_singleton] at A;subst A;rfl)
  have V:zG (.str faa)=true:=rfl
  rw [e1] at j
  have w1:IntKind.i64.wrap (((0:Nat):Int)+1)=((1:Nat):Int):=rfl
  simp only [j,b,m,D,T,Int.natCast_zero,List.getD_cons_zero,llc,lln,List.all_cons,List.all_nil,Bool.and_self,V,go_sem]
  have S:Keep none' M (M++[Blk.cells 2 [[IV.str [110,47,48,48,48],IV.str faa]]]):=Keep.app Keep.refl
  refine wI (I.keep S) (R.trans S fun _ _ h=>h) (by decide) (by decide) (fun r A=>by simp only [List.mem_singleton] at A;subst A;exact ⟨rfl,rfl⟩) (fun w M3 G q=>?_)
  simp only [YF,B,j,b,m,e1,Int.natCast_zero,go_sem]
  exact ⟨0,od,1,od,rfl,rfl,G,q⟩
 ·obtain rfl:i=1:=by omega
  simp only [b,m,D,go_sem]
  rcases I with ⟨_,e⟩ | ⟨g,rfl,Y,j3,j4⟩
  ·cases e
  refine zh (zjc (E:=E.noPan) O rfl) ?_
  rintro r L' ⟨rfl,rfl⟩
  simp only [D,go_sem]
  exact ⟨⟨g,rfl,Y,j3⟩,R⟩
def zjz : XC :=(.seq (.drawE [oM 262 0,oN 263 262,oF 264 4 263,oL 265 264,oQ 266 50 [.t 265],oM 267 0,oN 268 267,oF 269 5 268,oL 270 269,oN 271 270,oF 272 4 271,oL 273 272,oQ 274 55 [.t 266,.t 273],oM 275 274,oG 276 275 true (.mov (.t 0)),oG 277 275 true (.nilck (.t 276)),oG 278 275 true (.fldA 4 (.t 277)),oG 279 275 true (.load1 (.t 278)),oG 280 275 true (.pcall (.f 72) [.t 279,(oi 3)]),oG 281 275 true (.bin .eql (.t 280) (oi 0)),oO 282 (.pick (.t 275) (.t 281) (.c (.bool false))),oM 283 282,oG 284 283 true (.mov (.t 0)),oG 285 283 true (.nilck (.t 284)),oG 286 283 true (.fldA 4 (.t 285)),oG 287 283 true (.load1 (.t 286)),oG 288 283 true (.call (.f 11) [.t 287,(.c (.int .i64 (-1)))]),oG 289 283 true (.bin .eql (.t 288) (oi 0)),oO 290 (.pick (.t 283) (.t 289) (.c (.bool false))),oM 2 290]) .ret)
def zjw : XC :=(sO [oI 14 0] (.block 4 (.loop (.seq (sO [oM 205 14,oK 206 .lss 205 3] (cT 206 .skip (.exit 4))) (.seq (.block 5 (.seq (.drawE [oM 209 0,oN 210 209,oF 211 4 210,oL 212 211,oM 213 14,oQ 214 71 [.t 212,.t 213],oM 215 0,oN 216 215,oF 217 5 216,oL 218 217,oM 219 14,oN 220 218,oF 221 6 220,oO 222 (.idxA 16 1 (.t 221) (.t 219)),oL 223 222,oQ 224 70 [.t 214,.t 223],oO 225 (.un .not (.t 224)),oM 226 225,oG 227 226 false (.mov (.t 0)),oG 228 226 false (.nilck (.t 227)),oG 229 226 false (.fldA 4 (.t 228)),oG 230 226 false (.load1 (.t 229)),oG 231 226 false (.mov (.t 14)),oG 232 226 false (.pcall (.f 72) [.t 230,.t 231]),oG 233 226 false (.mov (.t 0)),oG 234 226 false (.nilck (.t 233)),oG 235 226 false (.fldA 5 (.t 234)),oG 236 226 false (.load1 (.t 235)),oG 237 226 false (.mov (.t 14)),oG 238 226 false (.nilck (.t 236)),oG 239 226 false (.fldA 22 (.t 238)),oG 240 226 false (.idxA 16 1 (.t 239) (.t 237)),oG 241 226 false (.load1 (.t 240)),oG 242 226 false (.bin .neq (.t 232) (.t 241)),oO 243 (.pick (.t 226) (.c (.bool true)) (.t 242)),oM 244 243,oG 245 244 false (.mov (.t 0)),oG 246 244 false (.nilck (.t 245)),oG 247 244 false (.fldA 4 (.t 246)),oG 248 244 false (.load1 (.t 247)),oG 249 244 false (.mov (.t 14)),oG 250 244 false (.pcall (.f 11) [.t 248,.t 249]),oG 251 244 false (.mov (.t 0)),oG 252 244 false (.nilck (.t 251)),oG 253 244 false (.fldA 5 (.t 252)),oG 254 244 false (.load1 (.t 253)),oG 255 244 false (.mov (.t 14)),oG 256 244 false (.nilck (.t 254)),oG 257 244 false (.fldA 38 (.t 256)),oG 258 244 false (.idxA 16 1 (.t 257) (.t 255)),oG 259 244 false (.load1 (.t 258)),oG 260 244 false (.bin .neq (.t 250) (.t 259)),oO 261 (.pick (.t 244) (.c (.bool true)) (.t 260))]) (cT 261 (sO [oV 2 (.bool false)] .ret) .skip))) (.ops [oM 207 14,oK 208 .add 207 1,oM 14 208]))))))
def zi7 : XC :=(sO [oI 10 0] (.block 2 (.loop (.seq (sO [oM 108 10,oM 109 0,oN 110 109,oF 111 5 110,oL 112 111,oN 113 112,oF 114 3 113,oL 115 114,oM 116 4,oO 117 (.idxS 12 (.t 115) (.t 116)),oF 118 11 117,oL 119 118,oY 120 119,oB 121 .lss 108 120] (cT 121 .skip (.exit 2))) (.seq (.block 3 (.seq (.drawE [oM 125 0,oN 126 125,oF 127 4 126,oL 128 127,oM 129 3,oM 130 4,oO 131 (.idxS 1 (.t 129) (.t 130)),oL 132 131,oM 133 0,oN 134 133,oF 135 5 134,oL 136 135,oN 137 136,oF 138 3 137,oL 139 138,oM 140 4,oO 141 (.idxS 12 (.t 139) (.t 140)),oF 142 11 141,oL 143 142,oM 144 10,oO 145 (.idxS 2 (.t 143) (.t 144)),oF 146 0 145,oL 147 146,oC 148 15 [.t 128,.t 132,.t 147],oM 124 148,oX 149 0 124,oX 150 1 124,oM 11 149,oM 12 150]) (sO [oM 151 12,oO 152 (.un .not (.t 151)),oM 153 152,oG 154 153 false (.mov (.t 11)),oG 155 153 false (.mov (.t 0)),oG 156 153 false (.nilck (.t 155)),oG 157 153 false (.fldA 5 (.t 156)),oG 158 153 false (.load1 (.t 157)),oG 159 153 false (.nilck (.t 158)),oG 160 153 false (.fldA 3 (.t 159)),oG 161 153 false (.load1 (.t 160)),oG 162 153 false (.mov (.t 4)),oG 163 153 false (.idxS 12 (.t 161) (.t 162)),oG 164 153 false (.fldA 11 (.t 163)),oG 165 153 false (.load1 (.t 164)),oG 166 153 false (.mov (.t 10)),oG 167 153 false (.idxS 2 (.t 165) (.t 166)),oG 168 153 false (.fldA 1 (.t 167)),oG 169 153 false (.load1 (.t 168)),oG 170 153 false (.bin .neq (.t 154) (.t 169)),oO 171 (.pick (.t 153) (.c (.bool true)) (.t 170))] (cT 171 (sO [oV 2 (.bool false)] .ret) .skip)))) (.ops [oM 122 10,oK 123 .add 122 1,oM 10 123]))))))
def ziq : XC :=(sO [oM 172 0,oN 173 172,oF 174 4 173,oL 175 174,oC 176 50 [.t 175],oM 13 176] (.seq (.seq (.drawE [oM 177 13,oM 178 0,oN 179 178,oF 180 5 179,oL 181 180,oN 182 181,oF 183 4 182,oL 184 183,oQ 185 55 [.t 177,.t 184],oO 186 (.un .not (.t 185)),oM 187 186,oG 188 187 false (.mov (.t 0)),oG 189 187 false (.nilck (.t 188)),oG 190 187 false (.fldA 4 (.t 189)),oG 191 187 false (.load1 (.t 190)),oG 192 187 false (.pcall (.f 69) [.t 191]),oG 193 187 false (.mov (.t 0)),oG 194 187 false (.nilck (.t 193)),oG 195 187 false (.fldA 5 (.t 194)),oG 196 187 false (.load1 (.t 195)),oG 197 187 false (.nilck (.t 196)),oG 198 187 false (.fldA 5 (.t 197)),oG 199 187 false (.load1 (.t 198)),oG 200 187 false (.call (.f 55) [.t 192,.t 199]),oG 201 187 false (.un .not (.t 200)),oO 202 (.pick (.t 187) (.c (.bool true)) (.t 201))]) (cT 202 (sO [oV 2 (.bool false)] .ret) .skip)) (sO [oM 203 13,oC 204 56 [.t 203]] (.seq zjw zjz))))
def q17 : XC :=(sO [oV 2 (.bool false)] (sO [oM 15 0,oN 16 15,oF 17 4 16,oL 18 17,oC 19 60 [.t 18],oM 3 19] (.seq (.seq (.drawE [oM 20 3,oM 21 0,oN 22 21,oF 23 5 22,oL 24 23,oQ 25 62 [.t 24],oQ 26 61 [.t 20,.t 25],oO 27 (.un .not (.t 26)),oM 28 27,oG 29 28 false (.mov (.t 0)),oG 30 28 false (.nilck (.t 29)),oG 31 28 false (.fldA 4 (.t 30)),oG 32 28 false (.load1 (.t 31)),oG 33 28 false (.pcall (.f 63) [.t 32]),oG 34 28 false (.mov (.t 0)),oG 35 28 false (.nilck (.t 34)),oG 36 28 false (.fldA 5 (.t 35)),oG 37 28 false (.load1 (.t 36)),oG 38 28 false (.nilck (.t 37)),oG 39 28 false (.fldA 54 (.t 38)),oG 40 28 false (.load1 (.t 39)),oG 41 28 false (.bin .neq (.t 33) (.t 40)),oO 42 (.pick (.t 28) (.c (.bool true)) (.t 41))]) (cT 42 (sO [oV 2 (.bool false)] .ret) .skip)) (.seq (sO [oI 4 0] (.block 0 (.loop (.seq (sO [oM 43 4,oM 44 3,oY 45 44,oB 46 .lss 43 45] (cT 46 .skip (.exit 0))) (.seq (.block 1 (.seq (.drawE [oM 50 0,oN 51 50,oF 52 4 51,oL 53 52,oM 54 3,oM 55 4,oO 56 (.idxS 1 (.t 54) (.t 55)),oL 57 56,oQ 58 64 [.t 53,.t 57],oM 49 58,oX 59 0 49,oX 60 1 49,oO 5 (.alloc [(.str []),(.str []),(.str []),(.str []),(.int .i64 0),(.str []),.nsl,.nsl,(.int .i64 0)]),oU (.store 9 (.t 5) (.t 59)),oM 6 60]) (.seq (.drawE [oM 62 0,oN 63 62,oF 64 5 63,oL 65 64,oM 66 3,oM 67 4,oO 68 (.idxS 1 (.t 66) (.t 67)),oL 69 68,oQ 70 51 [.t 65,.t 69],oM 61 70,oX 71 0 61,oX 72 1 61,oO 7 (.alloc [(.str []),(.str []),(.str []),(.str []),(.int .i64 0),(.str []),.nsl,.nsl,(.int .i64 0)]),oU (.store 9 (.t 7) (.t 71)),oM 8 72]) (.seq (.drawE [oM 73 0,oN 74 73,oF 75 4 74,oL 76 75,oM 77 3,oM 78 4,oO 79 (.idxS 1 (.t 77) (.t 78)),oL 80 79,oC 81 9 [.t 76,.t 80],oM 9 81]) (.seq (.seq (.drawE [oM 82 6,oO 83 (.un .not (.t 82)),oM 84 83,oG 85 84 false (.loadN 9 (.t 5)),oG 86 84 false (.loadN 9 (.t 7)),oG 87 84 false (.call (.f 65) [.t 85,.t 86]),oG 88 84 false (.un .not (.t 87)),oO 89 (.pick (.t 84) (.c (.bool true)) (.t 88)),oM 90 89,oG 91 90 false (.mov (.t 9)),oG 92 90 false (.mov (.t 0)),oG 93 90 false (.nilck (.t 92)),oG 94 90 false (.fldA 5 (.t 93)),oG 95 90 false (.load1 (.t 94)),oG 96 90 false (.mov (.t 3)),oG 97 90 false (.mov (.t 4)),oG 98 90 false (.idxS 1 (.t 96) (.t 97)),oG 99 90 false (.load1 (.t 98)),oG 100 90 false (.call (.f 52) [.t 95,.t 99]),oG 101 90 false (.call (.f 66) [.t 91,.t 100]),oG 102 90 false (.un .not (.t 101)),oO 103 (.pick (.t 90) (.c (.bool true)) (.t 102))]) (cT 103 (sO [oV 2 (.bool false)] .ret) .skip)) (sO [oO 104 (.loadN 9 (.t 5)),oC 105 67 [.t 104]] (sO [oM 106 9,oC 107 68 [.t 106]] zi7))))))) (.ops [oM 47 4,oK 48 .add 47 1,oM 4 48])))))) ziq))))
theorem zeh {u v:Value} {r:IV} {KV:IV->List Blk->Prop} (h:wE .neq u v=some r):xop E (.bin .neq (.c (.raw u)) (.c (.raw v))) cev L KV=KV r L:=by
 simp only [xop,VM,Z9,h,sij,exists_eq_left']
theorem zfw {l:List RqV} (hd:(l.map RqV.req).Nodup) {q:RqV} (b:q∈l):V5 l q.req=(q.ans,true):=by
 induction l with
 | nil=>cases b
 | cons a l j=>
  rw [List.map_cons,List.nodup_cons] at hd
  unfold V5
  rcases List.mem_cons.1 b with rfl | b
  ·simp
  ·have d:¬a.req=q.req:=fun h=>hd.1 (h▸List.mem_map.2 ⟨q,b,rfl⟩)
   have:=j hd.2 b
   unfold V5 at this
   simpa [d] using this
theorem z8g (hP:E.P=Tryz.prog) {p t s dk x N m:Nat} {c:IV} {FS:Nat->Prop} {l:List RqV} {g:Nat} (gp:L[p]?=some (plB t s dk c (.ptr x 0 0) (yH faa (some (yj l))) 1 0)) (gx:L[x]?=some (exB s)) (hS:zl L s FS N ((1:Nat):Int) (dOf (strOf st0.bytes) l)) (S:Nums l m) (hm:m<1000000) (hl:l.length<=64) (ho:∀q∈l,q.ok) (hd:(l.map RqV.req).Nodup) (A:ρ 0=.ptr p 0 0) (v:ρ 3=.sl g 0 1 1) (w:ρ 4=.int .i64 0) (gg:L[g]?=some (.cells 1 [[.str faa]])) :
  Zg E.noPan zi7 ρ L (zeb fun ρ' L'=>ρ' 0=.ptr p 0 0/\ρ' 3=.sl g 0 1 1/\ρ' 4=.int .i64 0/\L'=L):=by
 have u:yH faa (some (yj l))=.iptr [zN (.isl []) (.isl (Zh faa (some (yj l))))] 0 0:=rfl
 have d:=gp
 have lp:=zg gp
 unfold plB at d
 have G:m<72057594037927936:=by omega
 have T:=wW (s:=strOf st0.bytes) S
 have O:(dOf (strOf st0.bytes) l).length<=900000:=by rw [vZ];omega
 have lg:=zg gg
 have Q:Rows 12 (Zh faa (some (yj l)))=True:=eq_true (fun r I=>by simp only [Zh,List.mem_singleton] at I;subst I;rfl)
 have Y:(0<(Zh faa (some (yj l))).length)=True:=eq_true (Nat.lt_succ_self 0)
 have U:((0:Int)<((Zh faa (some (yj l))).length:Int))=True:=eq_true (Int.zero_lt_one)
 have R:(Zh faa (some (yj l))).getD 0 []=Y2 faa (yj l):=rfl
 have gf:(Y2 faa (yj l)).getD 11 .und=.isl (knR (yj l)):=rfl
 have h:(11<(Y2 faa (yj l)).length)=True:=eq_true (by rw [We];decide)
 have V:((3:Nat)<(zN (.isl []) (.isl (Zh faa (some (yj l))))).length)=True:=eq_true (by rw [ZN];decide)
 have b:(knR (yj l)).length=l.length:=by simp [knR,yj]
 have D:lenOf (.isl (knR (yj l)))=some l.length:=by rw [<-b];rfl
 have B:Rows 2 (knR (yj l))=True:=eq_true (fun r I=>by obtain ⟨q,_,rfl⟩:=List.mem_map.1 I;rfl)
 unfold zi7
 simp only [go_sem]
 refine zC (fun n ρ M=>∃k:Nat,k<=l.length/\n=l.length - k/\M=L/\ρ 0=.ptr p 0 0/\ρ 3=.sl g 0 1 1/\ρ 4=.int .i64 0/\ρ 10=.int .i64 k)
  ⟨0,od,rfl,rfl,by simp only [A,go_sem],by simp only [v,go_sem],by simp only [w,go_sem],by simp only [go_sem]<;>rfl⟩ ?_
 clear A v w
 rintro n ρ M ⟨k,hk,rfl,rfl,A,v,w,j⟩
 by_cases hc:k<l.length
 ·have J:((k:Int)<(l.length:Int))=True:=tO
  have f0:((0:Int)<=(k:Int))=True:=tO
  have f2:(k<(knR (yj l)).length)=True:=tO
  obtain ⟨q,Z⟩:∃q,l[k]?=some q:=⟨l[k],List.getElem?_eq_getElem hc⟩
  have X:q∈l:=List.mem_of_getElem? Z
  have gk:(knR (yj l)).getD k []=[.str q.req,.str q.ans]:=by rw [List.getD_eq_getElem?_getD];simp [knR,yj,Z]
  have w1:IntKind.i64.wrap ((k:Int)+1)=((k+1:Nat):Int):=wR
  simp only [A,v,w,j,d,u,V,z0N,Q,Y,U,R,gf,h,zt D,J,gg,B,b,f0,gk,Int.toNat_natCast,go_sem]
  refine ⟨hc,?_⟩
  refine zh (Jj (E:=E.noPan) (kn:=some st0) (l:=l) (rq:=q.req) hP gx hS O T (Vy S G jv) rfl (z1F S G) ho od) ?_
  rintro r M2 ⟨rfl,rfl⟩
  rw [zfw hd X]
  simp only [A,v,w,j,d,u,V,z0N,Q,Y,U,R,gf,h,B,b,f0,J,gk,Int.toNat_natCast,w1,go_sem]
  exact ⟨hc,l.length - (k+1),od,k+1,od,rfl,rfl⟩
 ·have J:((k:Int)<(l.length:Int))=False:=fO
  simp only [A,v,w,j,d,u,V,z0N,Q,Y,U,R,gf,h,zt D,J,go_sem]
theorem z7Q (D:E.P=Tryz.prog) {p t s dk x N m:Nat} {c:IV} {FS:Nat->Prop} {l:List RqV} (Z:L[p]?=some (plB t s dk c (.ptr x 0 0) (yH faa (some (yj l))) 1 0)) (U:L[x]?=some (exB s)) (V:zl L s FS N ((1:Nat):Int) (dOf (strOf st0.bytes) l)) (O:Nums l m) (hm:m<1000000) (hl:l.length<=64) (ho:∀q∈l,q.ok) (r:ρ 0=.ptr p 0 0) :
  Zg E.noPan zjw ρ L (zeb fun ρ' L'=>ρ' 0=.ptr p 0 0/\L'=L):=by
 have v:yH faa (some (yj l))=.iptr [zN (.isl []) (.isl (Zh faa (some (yj l))))] 0 0:=rfl
 have d:=Z
 have lp:=zg Z
 unfold plB at d
 have J:m<72057594037927936:=by omega
 have S:=wW (s:=strOf st0.bytes) O
 have G:(dOf (strOf st0.bytes) l).length<=900000:=by rw [vZ];omega
 have X:∀k,k<3->(zN (.isl []) (.isl (Zh faa (some (yj l))))).getD (6+k) .und=.isl []:=fun k w=>by match k,w with | 0,_ | 1,_ | 2,_=>rfl
 have B:∀k,k<3->(zN (.isl []) (.isl (Zh faa (some (yj l))))).getD (22+k) .und=.int .i64 0:=fun k w=>by match k,w with | 0,_ | 1,_ | 2,_=>rfl
 have A:∀k,k<3->(zN (.isl []) (.isl (Zh faa (some (yj l))))).getD (38+k) .und=.int .i64 0:=fun k w=>by match k,w with | 0,_ | 1,_ | 2,_=>rfl
 have j:=ZN (z:=.isl []) (l:=.isl (Zh faa (some (yj l))))
 unfold zjw
 simp only [go_sem]
 refine zC (fun n ρ M=>∃k:Nat,k<=3/\n=3 - k/\M=L/\ρ 0=.ptr p 0 0/\ρ 14=.int .i64 k)
  ⟨0,od,rfl,rfl,by simp only [r,go_sem],by simp only [go_sem]<;>rfl⟩ ?_
 clear r
 rintro n ρ M ⟨k,w,rfl,rfl,r,b⟩
 by_cases hc:k<3
 ·have u:((k:Int)<3)=True:=tO
  have T:((0:Int)<=(k:Int))=True:=tO
  have f16:((k:Int)<16)=True:=tO
  have w1:IntKind.i64.wrap ((k:Int)+1)=((k+1:Nat):Int):=wR
  have g6:(6+k<(zN (.isl []) (.isl (Zh faa (some (yj l))))).length)=True:=eq_true (by rw [j];omega)
  have Q:(22+k<(zN (.isl []) (.isl (Zh faa (some (yj l))))).length)=True:=eq_true (by rw [j];omega)
  have R:(38+k<(zN (.isl []) (.isl (Zh faa (some (yj l))))).length)=True:=eq_true (by rw [j];omega)
  have j6:=X k hc
  have Y:=B k hc
  have I:=A k hc
  have n0:∀(c:UInt8) (q:List UInt8),(110:UInt8)≠c->(114:UInt8)≠c->(115:UInt8)≠c->z8E (dOf (strOf st0.bytes) l) (c::q) 0:=fun c q a1 a2 a3=>⟨.inl ⟨z5T O a1 a2 a3,rfl⟩,od⟩
  simp only [r,b,u,d,go_sem]
  refine Zp (E:=E.noPan) (.isl []) rfl (fun L2 ha=>z5E (by exact D) ((zS ha).get U fun h=>h) (V.keep (zS ha) fun _ _ h=>h) G S hc (VG O J (by decide) (by decide) (by decide))) ?_
  simp only [r,b,u,d,v,T,f16,g6,j6,Int.toNat_natCast,Nat.mul_one,go_sem]
  refine zY (args':=[.isl [],.isl []]) rfl (z7P (E:=E.noPan) D) (fun _=>rfl) ?_
  simp only [r,b,u,d,go_sem]
  refine Zp (E:=E.noPan) (.int .i64 ((0:Nat):Int)) rfl (fun L2 ha=>ze7 (by exact D) ((zS ha).get U fun h=>h) (V.keep (zS ha) fun _ _ h=>h) hc (n0 _ _ (by decide) (by decide) (by decide))) ?_
  simp only [r,b,u,d,v,T,f16,Q,Y,Int.toNat_natCast,Nat.mul_one,Int.natCast_zero,go_sem]
  refine Zp (E:=E.noPan) (.int .i64 ((0:Nat):Int)) rfl (fun L2 ha=>zaJ (by exact D) ((zS ha).get U fun h=>h) (V.keep (zS ha) fun _ _ h=>h) hc (n0 _ _ (by decide) (by decide) (by decide))) ?_
  simp only [r,b,u,d,v,T,f16,R,I,Int.toNat_natCast,Nat.mul_one,w1,Int.natCast_zero,go_sem]
  exact ⟨3 - (k+1),od,k+1,od,rfl,rfl⟩
 ·have u:((k:Int)<3)=False:=fO
  simp only [r,b,u,go_sem]
theorem zbR (d:E.P=Tryz.prog) {p t s O x N m:Nat} {c:IV} {FS:Nat->Prop} {l:List RqV} (I:L[p]?=some (plB t s O c (.ptr x 0 0) (yH faa (some (yj l))) 1 0)) (B:L[x]?=some (exB s)) (Q:zl L s FS N ((1:Nat):Int) (dOf (strOf st0.bytes) l)) (G:Nums l m) (U:m<1000000) (T:l.length<=64) (S:∀q∈l,q.ok) (j:ρ 0=.ptr p 0 0) {LK:XE->Rho->List Blk->Prop} (R:∀ρ':Rho,ρ' 2=.bool true->LK .ret ρ' L) :
  Zg E.noPan zjz ρ L LK:=by
 have D:yH faa (some (yj l))=.iptr [zN (.isl []) (.isl (Zh faa (some (yj l))))] 0 0:=rfl
 have b:=I
 have lp:=zg I
 unfold plB at b
 have w:m<72057594037927936:=by omega
 have A:=wW (s:=strOf st0.bytes) G
 have u:(dOf (strOf st0.bytes) l).length<=900000:=by rw [vZ];omega
 have J:((4:Nat)<(zN (.isl []) (.isl (Zh faa (some (yj l))))).length)=True:=eq_true (by rw [ZN];decide)
 have v:(zN (.isl []) (.isl (Zh faa (some (yj l))))).getD 4 .und=.isl []:=rfl
 unfold zjz
 simp only [j,b,go_sem]
 refine Zp (E:=E.noPan) (.isl []) rfl (fun L2 ha=>Vu (l:=[]) (by exact d) ((zS ha).get B fun h=>h) (Q.keep (zS ha) fun _ _ h=>h) u A (VG G w (by decide) (by decide) (by decide)) (fun q M=>nomatch M) (by decide)) ?_
 simp only [j,b,D,J,v,go_sem]
 refine zY (args':=[.isl [],.isl []]) rfl (wQ (E:=E.noPan) d) (fun _=>rfl) ?_
 simp only [j,b,go_sem]
 refine Zp (E:=E.noPan) (.int .i64 0) rfl (fun L2 ha=>zdJ (by exact d) ((zS ha).get B fun h=>h)) ?_
 simp only [j,b,go_sem]
 refine zh (zef (E:=E.noPan) d B) ?_
 rintro r L' ⟨rfl,rfl⟩
 simp only [go_sem]
 exact R _ (by simp only [go_sem])
theorem zad (j:E.P=Tryz.prog) {p t s dk x N m:Nat} {c:IV} {FS:Nat->Prop} {l:List RqV} (Y:L[p]?=some (plB t s dk c (.ptr x 0 0) (yH faa (some (yj l))) 1 0)) (gx:L[x]?=some (exB s)) (hS:zl L s FS N ((1:Nat):Int) (dOf (strOf st0.bytes) l)) (S:Nums l m) (hm:m<1000000) (hl:l.length<=64) (ho:∀q∈l,q.ok) (O:ρ 0=.ptr p 0 0) {LK:XE->Rho->List Blk->Prop} (hk:∀(ρ':Rho) (L':List Blk),ρ' 2=.bool true->Keep none' L L'->LK .ret ρ' L') :
  Zg E.noPan ziq ρ L LK:=by
 have J:yH faa (some (yj l))=.iptr [zN (.isl []) (.isl (Zh faa (some (yj l))))] 0 0:=rfl
 have I:=Y
 have lp:=zg Y
 unfold plB at I
 have X:m<72057594037927936:=by omega
 have B:=wW (s:=strOf st0.bytes) S
 have u:(dOf (strOf st0.bytes) l).length<=900000:=by rw [vZ];omega
 have g4:((4:Nat)<(zN (.isl []) (.isl (Zh faa (some (yj l))))).length)=True:=eq_true (by rw [ZN];decide)
 have g5:((5:Nat)<(zN (.isl []) (.isl (Zh faa (some (yj l))))).length)=True:=eq_true (by rw [ZN];decide)
 have U:(zN (.isl []) (.isl (Zh faa (some (yj l))))).getD 4 .und=.isl []:=rfl
 have Z:(zN (.isl []) (.isl (Zh faa (some (yj l))))).getD 5 .und=.isl []:=rfl
 have G:∀(c:UInt8) (q:List UInt8),(110:UInt8)≠c->(114:UInt8)≠c->(115:UInt8)≠c->(dOf (strOf st0.bytes) l).list (c::q)=[]:=fun c q a1 a2 a3=>VG S X a1 a2 a3
 unfold ziq
 simp only [O,I,go_sem]
 refine zh (z0j (E:=E.noPan) j gx hS u B (G _ _ (by decide) (by decide) (by decide))) ?_
 rintro r L1 ⟨rfl,T⟩
 have d:=T.get Y fun h=>h
 have w:=T.get gx fun h=>h
 have D:=hS.keep T fun _ _ h=>h
 have b:=d
 have ae:=zg d
 unfold plB at b
 simp only [O,b,J,g4,U,go_sem]
 refine zY (args':=[.isl [],.isl []]) rfl (wQ (E:=E.noPan) j) (fun _=>rfl) ?_
 simp only [O,b,go_sem]
 refine Zp (E:=E.noPan) (.isl []) rfl (fun L2 ha=>z5o (by exact j) ((zS ha).get w fun h=>h) (D.keep (zS ha) fun _ _ h=>h) u B (G _ _ (by decide) (by decide) (by decide))) ?_
 simp only [O,b,J,g5,Z,go_sem]
 refine zi (args':=[.isl [],.isl []]) rfl (wQ (E:=E.noPan) j) rfl ?_
 simp only [go_sem]
 refine zh (z2Z (E:=E.noPan) j) ?_
 rintro r L2 ⟨rfl,R⟩
 have A:=R.get d fun h=>h
 have v:=R.get w fun h=>h
 have Q:=D.keep R fun _ _ h=>h
 simp only [go_sem]
 refine WQ _ (z7Q j A v Q S hm hl ho (by simp only [O,go_sem])) (fun af M h=>?_)
 obtain ⟨V,rfl⟩:=h
 simp only [go_sem]
 refine zbR j A v Q S hm hl ho V fun ρ' h2=>hk _ _ h2 (T.trans R fun _ _ h=>h)
theorem zdY (b:E.P=Tryz.prog) {p t s dk x N m:Nat} {c:IV} {FS:Nat->Prop} {l:List RqV} (gp:L[p]?=some (plB t s dk c (.ptr x 0 0) (yH faa (some (yj l))) 1 0)) (gx:L[x]?=some (exB s)) (hS:zl L s FS N ((1:Nat):Int) (dOf (strOf st0.bytes) l)) (O:Nums l m) (hm:m<1000000) (hl:l.length<=64) (ho:∀q∈l,q.ok) (hd:(l.map RqV.req).Nodup):XT E 17 [.ptr p 0 0] L fun r L'=>r=.bool true/\Keep none' L L':=by
 have dm:yH faa (some (yj l))=.iptr [zN (.isl []) (.isl (Zh faa (some (yj l))))] 0 0:=rfl
 have ai:=gp
 have lp:=zg gp
 unfold plB at ai
 have D:m<72057594037927936:=by omega
 have ax:=wW (s:=strOf st0.bytes) O
 have U:(dOf (strOf st0.bytes) l).length<=900000:=by rw [vZ];omega
 refine xt1 (fn:=Tryz.f17) (rs:=[.tmp 2]) (c:=q17) b fun ρ d=>?_
 unfold q17
 simp only [d,ai,go_sem]
 refine zh (z9g (E:=E.noPan) b gx hS U ax (z8O O D)) ?_
 rintro r L1 ⟨⟨g,rfl,gg,hg⟩,k1⟩
 have Q:=k1.get gp fun h=>h
 have ag:=k1.get gx fun h=>h
 have ah:=hS.keep k1 fun _ _ h=>h
 have G:=Q
 have ig:=zg Q
 unfold plB at G
 have iw:=k1.1
 have bu:((54:Nat)<(zN (.isl []) (.isl (Zh faa (some (yj l))))).length)=True:=eq_true (by rw [ZN];decide)
 have ae:(zN (.isl []) (.isl (Zh faa (some (yj l))))).getD 54 .und=.raw (.complex .f64 0 0):=rfl
 simp only [d,G,go_sem]
 refine zY (args':=[yH faa (some (yj l))]) rfl (z4o (E:=E.noPan) b) (fun _=>rfl) ?_
 simp only [go_sem]
 refine WS (args':=[.isl [[.str faa]],.isl [[.str faa]]]) (by simp [fuel,conv,gg,zJ,zF,Z9]) (z5d (E:=E.noPan) b) rfl (fun _=>rfl) ?_
 simp only [d,G,go_sem]
 refine Zp (E:=E.noPan) (.raw (.complex .f64 0 0)) rfl (fun L2 ha=>zcj (by exact b) ((zS ha).get ag fun h=>h) (ah.keep (zS ha) fun _ _ h=>h) (z5T O (by decide) (by decide) (by decide))) ?_
 have bn:(FloatKind.f64.format.order 0 0==some .eq)=true:=by decide +kernel
 have hq:wE .neq (.complex .f64 0 0) (.complex .f64 0 0)=some (.bool false):=by simp only [wE,if_true,bn,Bool.and_self,Bool.not_true]
 simp only [d,G,dm,bu,ae,zeh hq,go_sem]
 refine zC (fun n ρ M=>∃i:Nat,i<=1/\n=1 - i/\ρ 0=.ptr p 0 0/\ρ 3=.sl g 0 1 1/\ρ 4=.int .i64 i/\Keep none' L1 M)
  ⟨0,od,rfl,by simp only [d,go_sem],by simp only [go_sem],by simp only [go_sem]<;>rfl,Keep.refl⟩ ?_
 clear d ρ
 rintro n ρ M ⟨i,hi,rfl,d,h3,Y,Z⟩
 have B:=Z.get Q fun h=>h
 have w:=Z.get ag fun h=>h
 have A:=ah.keep Z fun _ _ h=>h
 have v:=Z.get gg fun h=>h
 have gq:=B
 have lq:=zg B
 have az:=zg v
 unfold plB at gq
 by_cases hc:i<1
 ·obtain rfl:i=0:=by omega
  simp only [d,h3,Y,gq,v,Int.natCast_zero,go_sem]
  refine Zp (E:=E.noPan) (.tup [.agg st0.cells,.bool true]) rfl (fun L2 ha=>zbo (by exact b) ((zS ha).get w fun h=>h) (A.keep (zS ha) fun _ _ h=>h) U (Vy O D jv)) ?_
  have dh:cellsOf (.agg st0.cells)=st0.cells:=rfl
  have T:st0.cells.length=9:=rfl
  have bg:st0.cells.all zG=true:=rfl
  have af:st0.cells.take 9=st0.cells:=rfl
  have iy:StV.zero.drop 9=[]:=rfl
  have gy:StV.zero.length=9:=rfl
  simp only [d,h3,Y,gq,lq,v,az,Int.natCast_zero,dh,T,bg,List.append_nil,go_sem]
  obtain ⟨t5,ay⟩:∃t,M.length=t:=⟨_,rfl⟩
  have kA:Keep none' M (M++[Blk.cells 9 [st0.cells]]):=Keep.app Keep.refl
  have gA:(M++[Blk.cells 9 [st0.cells]])[t5]?=some (.cells 9 [st0.cells]):=by rw [<-ay];simp
  rw [ay]
  generalize M++[Blk.cells 9 [st0.cells]]=MA at *
  have bf:zD E.noPan 51 [yH faa (some (yj l)),.str faa] (.tup [.agg st0.icells,.bool true]):=z0C (E:=E.noPan) b
  refine zY (args':=[yH faa (some (yj l)),.str faa]) rfl bf (fun _=>rfl) ?_
  have J:=kA.get B fun h=>h
  have ed:=kA.get w fun h=>h
  have eu:=A.keep kA fun _ _ h=>h
  have I:=kA.get v fun h=>h
  have gr:=J
  have lr:=zg J
  have bi:=zg I
  unfold plB at gr
  have cu:cellsOf (.agg st0.icells)=st0.icells:=rfl
  have aj:st0.icells.length=9:=rfl
  have df:st0.icells.all zG=true:=rfl
  have dn:st0.icells.take 9=st0.icells:=rfl
  simp only [d,h3,Y,gr,lr,I,bi,Int.natCast_zero,cu,aj,df,List.append_nil,go_sem]
  obtain ⟨t7,ak⟩:∃t,MA.length=t:=⟨_,rfl⟩
  have kB:Keep none' MA (MA++[Blk.cells 9 [st0.icells]]):=Keep.app Keep.refl
  have gB:(MA++[Blk.cells 9 [st0.icells]])[t7]?=some (.cells 9 [st0.icells]):=by rw [<-ak];simp
  rw [ak]
  generalize MA++[Blk.cells 9 [st0.icells]]=MB at *
  have X:=kA.trans kB fun _ _ h=>h
  refine zh (z7i (E:=E.noPan) b (X.get w fun h=>h) (A.keep X fun _ _ h=>h) U ax (Vy O D jv) (VG O D (by decide) (by decide) (by decide))) ?_
  rintro r MC ⟨rfl,kC⟩
  have j:=X.trans kC fun _ _ h=>h
  have V:=j.get B fun h=>h
  have bz:=j.get w fun h=>h
  have di:=A.keep j fun _ _ h=>h
  have R:=j.get v fun h=>h
  have S:=(kB.trans kC fun _ _ h=>h).get gA fun h=>h
  have au:=kC.get gB fun h=>h
  have gu:=V
  have lu:=zg V
  have iq:=zg R
  have gm:=zg S
  have gz:=zg au
  unfold plB at gu
  simp only [S,au,T,af,aj,dn,go_sem]
  refine zi (args':=[.agg st0.icells,.agg st0.icells]) rfl (z5a (E:=E.noPan) b) rfl ?_
  simp only [d,h3,Y,gu,R,Int.natCast_zero,go_sem]
  refine zi (args':=[yH faa (some (yj l)),.str faa]) rfl (jk (E:=E.noPan) b) rfl ?_
  simp only [go_sem]
  refine zi (args':=[.isl [],.isl []]) rfl (z3X (E:=E.noPan) b) rfl ?_
  simp only [S,T,af,go_sem]
  refine zh (z8F (E:=E.noPan) b) ?_
  rintro r MD ⟨rfl,kD⟩
  simp only [go_sem]
  refine zh (z8C (E:=E.noPan) b) ?_
  rintro r ME ⟨rfl,kE⟩
  have u:=kD.trans kE fun _ _ h=>h
  have dw:=j.trans u fun _ _ h=>h
  simp only [go_sem]
  refine WQ _ (z8g b (u.get V fun h=>h) (u.get bz fun h=>h) (di.keep u fun _ _ h=>h) O hm hl ho hd (by simp only [d,go_sem]) (by simp only [h3,go_sem]) (by simp only [Y,go_sem]<;>rfl) (u.get R fun h=>h)) (fun ik MF h=>?_)
  obtain ⟨j0,j3,j4,rfl⟩:=h
  simp only [YF,j0,j3,j4,go_sem]
  exact ⟨0,od,1,od,rfl,rfl,Z.trans dw fun _ _ h=>h⟩
 ·obtain rfl:i=1:=by omega
  simp only [h3,Y,go_sem]
  refine zad b B w A O hm hl ho (by simp only [d,go_sem]) fun ρ' L2 h2 k2=>?_
  simp only [h2,go_sem]
  exact (k1.trans Z fun _ _ h=>h).trans k2 fun _ _ h=>h
def q4e : XC :=(sO [oM 105 3,oC 106 17 [.t 105],oM 107 106,oG 108 107 true (.call (.f 12) []),oO 109 (.pick (.t 107) (.t 108) (.c (.bool false))),oM 2 109] .ret)
def q4l : XC :=(sO [oI 8 0] (.block 2 (.loop (.seq (sO [oM 62 8,oK 63 .lss 62 90] (cT 63 .skip (.exit 2))) (.seq (.block 3 (sO [oM 66 8,oK 67 .quo 66 10,oO 68 (.bin .add (oi 97) (.t 67)),oO 69 (.cvInt .u8 (.t 68)),oM 70 8,oK 71 .rem 70 10,oO 72 (.bin .add (oi 97) (.t 71)),oO 73 (.cvInt .u8 (.t 72)),oO 74 (.bslice 1 [(.int .u8 0)] 2 [(0,(.t 69)),(1,(.t 73))]),oO 75 (.ex .bStr [.t 74]),oO 76 (.bin .add (.c (.str [114])) (.t 75)),oM 9 76] (sO [oM 78 3,oN 79 78,oF 80 4 79,oL 81 80,oM 82 4,oM 83 9,oC 84 15 [.t 81,.t 82,.t 83],oM 77 84,oX 85 0 77,oX 86 1 77,oM 10 85,oM 11 86] (sO [oM 88 3,oN 89 88,oF 90 5 89,oL 91 90,oM 92 4,oM 93 9,oC 94 16 [.t 91,.t 92,.t 93],oM 87 94,oX 95 0 87,oX 96 1 87,oM 12 95,oM 13 96] (sO [oM 97 10,oM 98 12,oB 99 .neq 97 98,oM 100 99,oG 101 100 false (.mov (.t 11)),oG 102 100 false (.mov (.t 13)),oG 103 100 false (.eqB true (.t 101) (.t 102)),oO 104 (.pick (.t 100) (.c (.bool true)) (.t 103))] (cT 104 (sO [oV 2 (.bool false)] .ret) .skip)))))) (.ops [oM 64 8,oK 65 .add 64 1,oM 8 65]))))))
def q4 : XC :=(sO [oV 2 (.bool false)] (sO [oC 14 5 [],oM 3 14] (.seq (sO [oM 15 3,oO 16 (.ex (.eqP false) [.t 15,oz])] (cT 16 (sO [oV 2 (.bool false)] .ret) .skip)) (sO [oC 17 8 [(oi 0)],oM 4 17] (.seq (sO [oI 5 0] (.block 0 (.loop (.seq (sO [oM 18 5,oM 19 0,oY 20 19,oB 21 .lss 18 20,oM 22 21,oG 23 22 true (.mov (.t 5)),oG 24 22 true (.bin .lss (.t 23) (oi 80)),oO 25 (.pick (.t 22) (.t 24) (.c (.bool false)))] (cT 25 .skip (.exit 0))) (.seq (.block 1 (sO [oM 28 0,oM 29 5,oO 30 (.idxS 1 (.t 28) (.t 29)),oL 31 30,oC 32 6 [.t 31,(oi 90)],oM 6 32] (sO [oM 33 3,oM 34 4,oM 35 6,oK 36 .quo 35 10,oO 37 (.bin .add (oi 97) (.t 36)),oO 38 (.cvInt .u8 (.t 37)),oM 39 6,oK 40 .rem 39 10,oO 41 (.bin .add (oi 97) (.t 40)),oO 42 (.cvInt .u8 (.t 41)),oO 43 (.bslice 1 [(.int .u8 0)] 2 [(0,(.t 38)),(1,(.t 42))]),oO 44 (.ex .bStr [.t 43]),oO 45 (.bin .add (.c (.str [114])) (.t 44)),oM 46 5,oK 47 .rem 46 26,oO 48 (.bin .add (oi 97) (.t 47)),oO 49 (.cvInt .u8 (.t 48)),oO 50 (.bslice 1 [(.int .u8 0)] 1 [(0,(.t 49))]),oO 51 (.ex .bStr [.t 50]),oO 52 (.build [(.str []),(.int .i64 0),.nsl,(.str []),(.str []),(.str []),(.str []),(.int .i64 0),(.str []),.nsl,.nsl,(.int .i64 0),.nsl,(.str []),(.str []),(.int .i64 0),(.int .i64 0)] [(0,(1,(.t 34))),(13,(1,(.t 45))),(14,(1,(.t 51)))]),oC 53 13 [.t 33,.t 52],oO 7 (.alloc [(.str []),(.int .i64 0),.nsl,(.str []),(.str []),(.str []),(.str []),(.int .i64 0),(.str []),.nsl,.nsl,(.int .i64 0),.nsl,(.str []),(.str []),(.int .i64 0),(.int .i64 0)]),oU (.store 17 (.t 7) (.t 53))] (sO [oM 54 3,oO 55 (.loadN 17 (.t 7)),oC 56 14 [.t 54,.t 55],oO 57 (.un .not (.t 56))] (cT 57 (sO [oV 2 (.bool false)] .ret) .skip))))) (.ops [oM 26 5,oK 27 .add 26 1,oM 5 27])))))) (.seq (sO [oM 58 0,oY 59 58,oK 60 .eql 59 0] (cT 60 (sO [oC 61 12 [],oM 2 61] .ret) .skip)) (.seq q4l q4e)))))))
theorem z4D {l:List RqV} {rq an:List UInt8} {m:Nat} (h:(l.map RqV.req).Nodup):((nextL l rq an m).map RqV.req).Nodup:=by
 unfold nextL
 rw [List.map_append,List.nodup_append]
 refine ⟨((Wx.trans Y3).map _).nodup h,by simp,fun a ha b d=>?_⟩
 obtain ⟨q,j,rfl⟩:=List.mem_map.1 ha
 have h1:=(Wx.subset j)
 unfold Z7 at h1
 have h2:=(List.mem_filter.1 h1).2
 simp at d h2
 subst d
 exact h2
theorem zbK (l:List RqV) (r:List UInt8):zcZ (yj l) r=V5 l r:=by
 unfold zcZ V5 yj
 rw [List.find?_map]
 have:(((fun p=>decide (p.1=r)):List UInt8 × List UInt8->Bool) ∘ fun q:RqV=>(q.req,q.ans))=fun q=>decide (q.req=r):=rfl
 rw [this]
 cases l.find? (fun q=>decide (q.req=r))<;>rfl
theorem JI {k:Nat} (h:k<256):byteOf [.int .u8 (k:Int)]=some (UInt8.ofNat k):=by
 have:(UInt8.ofNat ((k:Int).toNat)).toNat=k:=by simp;omega
 rw [Int.toNat_natCast] at this
 simp only [byteOf,Int.toNat_natCast,this,if_true]
theorem z1W {L:List Blk} {rows:List (List IV)} {s:List UInt8} (h:zJ byteOf rows=some s):(yG (L++[Blk.cells 1 rows]) (.sl L.length 0 rows.length rows.length)).bind (zJ byteOf)=some s:=by
 have e:=Zd (M:=L++[Blk.cells 1 rows]) (s:=L.length) (sz:=1) (A:=rows) (by simp) rfl
 simp [yG,e,h]
theorem Va.keep {p t s m c x n b NT NS:Nat} {r0:IV} {FT FS:Nat->Prop} {l d:KV} {L L':List Blk} (h:Va L p t s m c x r0 n b FT FS NT NS l d) (k:Keep none' L L'):Va L' p t s m c x r0 n b FT FS NT NS l d:=by
 obtain ⟨w,r,q,A,u,v,j,h1,h2⟩:=h
 exact ⟨k.get w fun h=>h,k.get r fun h=>h,k.get q fun h=>h,A.keep k fun _ _ h=>h,u,v.keep k fun _ _ h=>h,j,h1,h2⟩
theorem Va.next {p t s r c x NT NS NS':Nat} {r0 r1:IV} {FT FS FS':Nat->Prop} {D d I:KV} {L L':List Blk} (h:Va L p t s r c x r0 1 0 FT FS NT NS D d) (w:L'[p]?=some (plB t s r (.ptr c 0 0) (.ptr x 0 0) r1 1 0)) (B:zl L' s FS' NS' ((1:Nat):Int) I) (hG:Grown FS FS' L L') (k:Keep (fun u=>u=p\/FS u) L L') :
  Va L' p t s r c x r1 1 0 FT FS' NT NS' D I:=by
 obtain ⟨v,l,j,M,Q,S,b,⟨t1,t2,R⟩,⟨O,G,J⟩⟩:=h
 have q:¬c=p:=fun h=>by subst h;rw [v] at j;simp [plB,Wu] at j
 have A:¬x=p:=fun h=>by subst h;rw [v] at l;simp [plB,exB] at l
 have m:=M.lt.2.2
 refine ⟨w,k.get l fun h=>h.elim A G,k.get j fun h=>h.elim q J,M.keep k fun u h1 h2=>h2.elim (fun h=>t1 (h▸h1)) (b u h1),Q,B,fun u h1 h2=>?_,⟨t1,t2,R⟩,⟨hG.out (zf v) O,hG.out (zf l) G,hG.out (zf j) J⟩⟩
 exact hG.out (m u h1) (b u h1) h2
def z6P (p t s dk c x i:Nat) (L:List Blk):Prop:=∃(os:Option (List UInt8)) (l:List RqV) (FT FS:Nat->Prop) (NT NS:Nat) (dT:KV),
 Va L p t s dk c x (yH faa (os.map fun _=>yj l)) 1 0 FT FS NT NS dT (dSt os l)/\((os=none/\l=[]/\i=0)\/(os=some (strOf st0.bytes)/\∃(a:List RqV) (q:RqV) (n:Nat),l=a++[q]/\q.key=rqK n/\i=n+1))/\Nums l i/\l.length<=64/\(∀q∈l,q.ok)/\(l.map RqV.req).Nodup/\NS<=1000+1000000*i
theorem z6P.play {p t s d c x i:Nat} {L:List Blk} (h:z6P p t s d c x i L):∃o,L[p]?=some (plB t s d (.ptr c 0 0) (.ptr x 0 0) (yH faa o) 1 0):=by
 obtain ⟨os,l,FT,FS,NT,NS,j,b,_⟩:=h
 exact ⟨_,b.1⟩
theorem z6P.keep {p t s d c x i:Nat} {L L':List Blk} (h:z6P p t s d c x i L) (k:Keep none' L L'):z6P p t s d c x i L':=by
 obtain ⟨os,l,FT,FS,NT,NS,j,b,h2⟩:=h
 exact ⟨os,l,FT,FS,NT,NS,j,b.keep k,h2⟩
theorem z7l (hP:E.P=Tryz.prog) (O:E.gl 6=some dbT) {p t s dk c x i:Nat} {rq an:List UInt8} (hI:z6P p t s dk c x i L) (hi:i<80) (M:rq≠[]) (Q:rq.length<=256) (S:an.length<=4096) :
  XT E 14 [.ptr p 0 0,.agg (z2s 0 .nsl st0 .nsl rq an 0 0)] L fun r L'=>r=.bool true/\z6P p t s dk c x (i+1) L':=by
 obtain ⟨os,l,FT,FS,NT,NS,dT,d,D,b,A,Z,X,af⟩:=hI
 obtain ⟨gp,gx,gc,hT,hl,hS,ae,⟨t1,t2,t3⟩,⟨s1,s2,s3⟩⟩:=id d
 have T:L[c]?=some (Wu t s 1 (fl 1) (fl 0) true):=by rw [z5u];exact gc
 have u:i<72057594037927936:=by omega
 have v:os=none->l=[]:=fun h=>by
  rcases D with ⟨_,h2,_⟩ | ⟨h1,_⟩
  ·exact h2
  ·rw [h] at h1;cases h1
 have j:os=none\/os=some (strOf st0.bytes):=D.imp (fun h=>h.1) fun h=>h.1
 have B:(l=[]/\i=0)\/∃(a:List RqV) (q:RqV) (n:Nat),l=a++[q]/\q.key=rqK n/\i=n+1:=D.imp (fun h=>h.2) fun h=>h.2
 have J:(dSt os l).length<=800000:=by
  rcases j with rfl | rfl
  ·exact Nat.zero_le _
  ·show (dOf _ l).length<=_;rw [vZ];omega
 have R:∀q∈dSt os l,q.1.length<=1000:=by
  rcases j with rfl | rfl
  ·exact fun q hq=>(nomatch hq)
  ·exact wW b
 have hf:YH (dSt os l) (os.map fun _=>st0):=by
  rcases j with rfl | rfl
  ·rfl
  ·exact Vy b u jv
 have hd:(dSt os l).list [114,47,48,48,48,47]=jC l:=by
  rcases j with rfl | rfl
  ·rw [v rfl];rfl
  ·exact z1F b u
 have U:(((os.map fun _=>st0)).getD Vl).ev=0:=by cases os<;>rfl
 have I:knO (os.map fun _=>yj l)=yj l:=by
  rcases j with rfl | rfl
  ·rw [v rfl];rfl
  ·rfl
 have G:(yj l).length<=64:=by unfold yj;rw [List.length_map];exact A
 have w:=z7B (kn:=os.map fun _=>st0) (l:=l) (m:=i) (rq:=rq) (an:=an) hP O gp gx T hS s1 s3 J od R hf U hd Z A B b od M Q S (zbu b u v) (by rw [I];exact G)
 rw [I,zab b u v,<-zaw l rq an i] at w
 refine w.mono fun r L' ⟨hr,V,⟨FS',Y,hG⟩,k⟩=>?_
 exact ⟨hr,some (strOf st0.bytes),nextL l rq an i,FT,FS',NT,NS+1000000,dT,d.next V Y hG k,.inr ⟨rfl,z2R (Z7 l rq),⟨rqK i,rq,an⟩,i,rfl,rfl,rfl⟩,z7o b,zaV A,zc1 Z od od,z4D X,od⟩
theorem z0J (U:E.P=Tryz.prog) {p t s J c x i:Nat} (D:z6P p t s J c x i L) (ag:0<i) (hi:i<1000) (d:ρ 3=.ptr p 0 0) (u:ρ 4=.str faa) :
  Zg E.noPan q4l ρ L (zeb fun ρ' L'=>ρ' 3=.ptr p 0 0/\z6P p t s J c x i L'):=by
 unfold q4l
 simp only [go_sem]
 refine zC (fun n ρ M=>∃k:Nat,k<=90/\n=90 - k/\ρ 3=.ptr p 0 0/\ρ 4=.str faa/\ρ 8=.int .i64 k/\z6P p t s J c x i M)
  ⟨0,od,rfl,by simp only [d,go_sem],by simp only [u,go_sem],by simp only [go_sem]<;>rfl,D⟩ ?_
 clear d u D
 rintro n ρ M ⟨v,hv,rfl,d,u,R,D⟩
 by_cases hc:v<90
 ·have O:((v:Int)<90)=True:=tO
  have q1:IntKind.i64.wrap ((v:Int).tdiv 10)=((v / 10:Nat):Int):=by rw [Int.tdiv_eq_ediv_of_nonneg od,wrap64 od od];omega
  have q2:IntKind.i64.wrap (97+((v / 10:Nat):Int))=((97+v / 10:Nat):Int):=wR
  have q3:IntKind.u8.wrap ((97+v / 10:Nat):Int)=((97+v / 10:Nat):Int):=wu8 od od
  have q4:(v:Int).tmod 10=((v%10:Nat):Int):=by rw [Int.tmod_eq_emod_of_nonneg od];omega
  have q5:IntKind.i64.wrap (97+((v%10:Nat):Int))=((97+v%10:Nat):Int):=wR
  have q6:IntKind.u8.wrap ((97+v%10:Nat):Int)=((97+v%10:Nat):Int):=wu8 od od
  have Z:∀M,(yG (M++[Blk.cells 1 [[.int .u8 ((97+v / 10:Nat):Int)],[.int .u8 ((97+v%10:Nat):Int)]]]) (.sl M.length 0 2 2)).bind (zJ byteOf)=some [UInt8.ofNat (97+v / 10),UInt8.ofNat (97+v%10)]:=fun M=>z1W (by simp only [zJ,JI (k:=97+v / 10) od,JI (k:=97+v%10) od])
  have S:((10:Int)≠0)=True:=eq_true (by decide)
  generalize UInt8.ofNat (97+v / 10)=x1 at *
  generalize UInt8.ofNat (97+v%10)=x2 at *
  have w1:IntKind.i64.wrap ((v:Int)+1)=((v+1:Nat):Int):=wR
  obtain ⟨LA,q⟩:∃LA,M++[Blk.cells 1 [[.int .u8 ((97+v / 10:Nat):Int)],[.int .u8 ((97+v%10:Nat):Int)]]]=LA:=⟨_,rfl⟩
  have G:=Z M
  rw [q] at G
  have w:z6P p t s J c x i LA:=D.keep (by rw [<-q];exact Keep.app Keep.refl)
  obtain ⟨os,l,FT,FS,NT,NS,dT,j,Q,b,Y,ho,af,ae⟩:=id w
  obtain ⟨rfl,_⟩:os=some (strOf st0.bytes)/\True:=by
   rcases Q with ⟨_,_,h⟩ | ⟨h,_⟩
   ·omega
   ·exact ⟨h,trivial⟩
  obtain ⟨X,gx,gc,hT,hl,hS,V,⟨t1,t2,t3⟩,⟨s1,s2,s3⟩⟩:=j
  have lp:=zg X
  have m:=X
  unfold plB at m
  have B:i<72057594037927936:=by omega
  have I:(some (strOf st0.bytes)).map (fun _=>yj l)=some (yj l):=rfl
  have A:(yj l).length<=100000:=by unfold yj;rw [List.length_map];omega
  have T:zl LA s FS NS ((1:Nat):Int) (dOf (strOf st0.bytes) l):=hS
  simp only [d,u,R,O,q1,q2,q3,q4,q5,q6,S,true_and,q,G,m,I,go_sem]
  refine zh (Jj (E:=E.noPan) (kn:=some st0) (l:=l) (rq:=[114,x1,x2]) U gx T (by rw [vZ];omega) (wW b) (Vy b B jv) rfl (z1F b B) ho od) ?_
  rintro r M2 ⟨rfl,rfl⟩
  simp only [d,u,m,I,go_sem]
  refine zi (args':=[yH faa (some (yj l)),.str faa,.str [114,x1,x2]]) rfl (z3k (E:=E.noPan) U A) rfl ?_
  rw [zbK]
  generalize V5 l [114,x1,x2]=ab
  simp only [d,u,R,w1,go_sem]
  exact ⟨90 - (v+1),od,v+1,od,rfl,rfl,w⟩
 ·have O:((v:Int)<90)=False:=fO
  simp only [d,R,O,go_sem]
  exact D
theorem zcS (J:E.P=Tryz.prog) (Q:∀{L:List Blk},XT E.noPan 12 [] L fun r L'=>r=.bool true/\Keep none' L L') {p t s D c x i:Nat} (w:z6P p t s D c x i L) (M:0<i) (hi:i<1000) (B:ρ 3=.ptr p 0 0) {LK:XE->Rho->List Blk->Prop} (O:∀(ρ':Rho) (L':List Blk),ρ' 2=.bool true->LK .ret ρ' L') :
  Zg E.noPan q4e ρ L LK:=by
 obtain ⟨os,l,FT,FS,NT,NS,T,b,j,q,d,A,u,R⟩:=w
 obtain ⟨rfl,_⟩:os=some (strOf st0.bytes)/\True:=by
  rcases j with ⟨_,_,h⟩ | ⟨h,_⟩
  ·omega
  ·exact ⟨h,trivial⟩
 obtain ⟨S,G,U,hT,hl,I,v,⟨t1,t2,t3⟩,⟨Y,V,s3⟩⟩:=b
 unfold q4e
 simp only [B,go_sem]
 refine zh (zdY (E:=E.noPan) (m:=i) J S G I q od d A u) ?_
 rintro r L2 ⟨rfl,X⟩
 simp only [go_sem]
 refine zh Q ?_
 rintro r L4 ⟨rfl,Z⟩
 simp only [go_sem]
 exact O _ _ (by simp only [go_sem])
theorem zdS (j:E.P=Tryz.prog) (X:E.gl 6=some dbT) (Z:∀{L:List Blk},XT E.noPan 12 [] L fun r L'=>r=.bool true/\Keep none' L L') (b:List Int) (ai:b.length<=9223372036854775807):zD E 4 [.isl (z0o b)] (.bool true):=by
 refine zU (R:=fun r L'=>r=.bool true/\Keep none' [] L') ?_ ?_
 rotate_left
 ·rintro r L' ⟨rfl,hk⟩
  exact ⟨hk,_,rfl,rfl⟩
 refine xt1 (fn:=Tryz.f4) (rs:=[.tmp 2]) (c:=q4) j fun ρ l=>?_
 unfold q4
 have ep:∀u:Nat,vI (.ptr u 0 0) (.raw (.pointer none))=some false:=fun _=>rfl
 have lo:lenOf (.isl (z0o b))=some b.length:=by rw [<-Vw];rfl
 simp only [go_sem]
 refine zh (z2V (E:=E.noPan) j) ?_
 rintro r L1 ⟨p,t,s,dk,c,x,FT,FS,NT,NS,dT,rfl,d,ah,ak,ax,O,V,aj,au,k1⟩
 simp only [ep,go_sem]
 refine zi (args':=[.int .i64 0]) rfl (Yy (E:=E.noPan) j) rfl ?_
 simp only [go_sem]
 have A:z6P p t s dk c x 0 L1:=⟨none,[],FT,FS,NT,NS,dT,d,.inl ⟨rfl,rfl,rfl⟩,⟨[],rfl,List.Pairwise.nil,fun _ h=>(nomatch h)⟩,by decide,fun _ h=>(nomatch h),List.nodup_nil,od⟩
 clear d O V
 refine zC (fun n ρ L3=>∃i:Nat,i<=80/\n=80 - i/\ρ 0=.isl (z0o b)/\ρ 3=.ptr p 0 0/\ρ 4=.str faa/\ρ 5=.int .i64 i/\z6P p t s dk c x i L3)
  ⟨0,od,rfl,by simp only [l,go_sem],by simp only [go_sem],by simp only [go_sem]<;>rfl,by simp only [go_sem]<;>rfl,A⟩ ?_
 clear l ρ
 rintro n ρ L3 ⟨i,hi,rfl,l,D,J,B,A⟩
 by_cases hc:i<b.length/\i<80
 ·obtain ⟨c1,c2⟩:=hc
  have q:((i:Int)<(b.length:Int))=True:=tO
  have Q:((i:Int)<80)=True:=tO
  have e0:((0:Int)<=(i:Int))=True:=tO
  have n1:(i<(z0o b).length)=True:=eq_true (by rw [Vw];exact c1)
  have S:=za3 c1
  have hR:=eq_true (zgd b)
  obtain ⟨v,hv⟩:∃v:Nat,b.getD i 0%90=(v:Int):=⟨(b.getD i 0%90).toNat,od⟩
  have ag:v<90:=by omega
  simp only [l,B,zt lo,q,Q,e0,S,hR,Vw,Int.toNat_natCast,go_sem]
  refine ⟨c1,?_⟩
  refine zi (args':=[.int .i64 (b.getD i 0),.int .i64 90]) rfl (z4y (E:=E.noPan) j _ 90 (by decide) (by decide)) rfl ?_
  rw [hv]
  have q1:IntKind.i64.wrap ((v:Int).tdiv 10)=((v / 10:Nat):Int):=by rw [Int.tdiv_eq_ediv_of_nonneg od,wrap64 od od];omega
  have q2:IntKind.i64.wrap (97+((v / 10:Nat):Int))=((97+v / 10:Nat):Int):=wR
  have q3:IntKind.u8.wrap ((97+v / 10:Nat):Int)=((97+v / 10:Nat):Int):=wu8 od od
  have q4:(v:Int).tmod 10=((v%10:Nat):Int):=by rw [Int.tmod_eq_emod_of_nonneg od];omega
  have q5:IntKind.i64.wrap (97+((v%10:Nat):Int))=((97+v%10:Nat):Int):=wR
  have q6:IntKind.u8.wrap ((97+v%10:Nat):Int)=((97+v%10:Nat):Int):=wu8 od od
  have q7:(i:Int).tmod 26=((i%26:Nat):Int):=by rw [Int.tmod_eq_emod_of_nonneg od];omega
  have q8:IntKind.i64.wrap (97+((i%26:Nat):Int))=((97+i%26:Nat):Int):=wR
  have q9:IntKind.u8.wrap ((97+i%26:Nat):Int)=((97+i%26:Nat):Int):=wu8 od od
  have b2:∀M,(yG (M++[Blk.cells 1 [[.int .u8 ((97+v / 10:Nat):Int)],[.int .u8 ((97+v%10:Nat):Int)]]]) (.sl M.length 0 2 2)).bind (zJ byteOf)=some [UInt8.ofNat (97+v / 10),UInt8.ofNat (97+v%10)]:=fun M=>z1W (by simp only [zJ,JI (k:=97+v / 10) od,JI (k:=97+v%10) od])
  have b3:∀M,(yG (M++[Blk.cells 1 [[.int .u8 ((97+i%26:Nat):Int)]]]) (.sl M.length 0 1 1)).bind (zJ byteOf)=some [UInt8.ofNat (97+i%26)]:=fun M=>z1W (by simp only [zJ,JI (k:=97+i%26) od])
  have Y:((10:Int)≠0)=True:=eq_true (by decide)
  have af:((26:Int)≠0)=True:=eq_true (by decide)
  generalize UInt8.ofNat (97+v / 10)=x1 at *
  generalize UInt8.ofNat (97+v%10)=x2 at *
  generalize UInt8.ofNat (97+i%26)=x3 at *
  simp only [D,J,B,q1,q2,q3,q4,q5,q6,q7,q8,q9,b2,b3,Y,af,true_and,go_sem]
  obtain ⟨LA,I⟩:∃LA,L3++[Blk.cells 1 [[.int .u8 ((97+v / 10:Nat):Int)],[.int .u8 ((97+v%10:Nat):Int)]]]++[Blk.cells 1 [[.int .u8 ((97+i%26:Nat):Int)]]]=LA:=⟨_,rfl⟩
  have kA:Keep none' L3 LA:=by rw [<-I];exact Keep.app (Keep.app Keep.refl)
  rw [I]
  obtain ⟨rv,gp⟩:=A.play
  refine zh (z8q (E:=E.noPan) j (kA.get gp fun h=>h)) ?_
  rintro r LB ⟨rfl,kB⟩
  obtain ⟨U,w⟩:∃U,z2s 0 .nsl st0 .nsl [114,x1,x2] [x3] 0 0=U:=⟨_,rfl⟩
  have u1:cellsOf (.agg U)=U:=by rw [<-w];rfl
  have u2:U.length=17:=by rw [<-w];rfl
  have u3:U.all zG=true:=by rw [<-w];rfl
  have u4:U.take 17=U:=by rw [<-w];rfl
  rw [w]
  simp only [D,u1,u2,u3,u4,List.append_nil,go_sem]
  rw [<-w]
  refine zh (z7l (E:=E.noPan) j X (A.keep ((kA.trans kB fun _ _ h=>h).trans (Keep.app Keep.refl) fun _ _ h=>h)) c2 (List.cons_ne_nil _ _) (by show 3<=256;decide) (by show 1<=4096;decide)) ?_
  rintro r LC ⟨rfl,T⟩
  have w1:IntKind.i64.wrap ((i:Int)+1)=((i+1:Nat):Int):=wR
  simp only [l,D,J,B,w1,go_sem]
  exact ⟨80 - (i+1),od,i+1,od,rfl,rfl,T⟩
 ·have m:∀L:List Blk,Keep none' [] L:=fun L=>⟨Nat.zero_le _,fun t ht=>(nomatch ht)⟩
  by_cases c1:i<b.length
  ·have q:((i:Int)<(b.length:Int))=True:=tO
   have Q:((i:Int)<80)=False:=fO
   have G:((b.length:Int)=0)=False:=fO
   simp only [l,B,zt lo,q,Q,G,go_sem]
   refine WQ _ (z0J j A od od (by simp only [D,go_sem]) (by simp only [J,go_sem])) (fun ae M h=>?_)
   simp only [go_sem]
   refine zcS j Z h.2 od od h.1 fun ρ' L' h2=>?_
   simp only [h2,go_sem]
   exact m _
  ·have q:((i:Int)<(b.length:Int))=False:=fO
   by_cases c2:b.length=0
   ·have G:((b.length:Int)=0)=True:=tO
    simp only [l,B,zt lo,q,G,go_sem]
    refine zh Z ?_
    rintro r L4 ⟨rfl,k4⟩
    simp only [go_sem]
    exact m _
   ·have G:((b.length:Int)=0)=False:=fO
    simp only [l,B,zt lo,q,G,go_sem]
    refine WQ _ (z0J j A od od (by simp only [D,go_sem]) (by simp only [J,go_sem])) (fun ae M h=>?_)
    simp only [go_sem]
    refine zcS j Z h.2 od od h.1 fun ρ' L' h2=>?_
    simp only [h2,go_sem]
    exact m _
end
end Go.X.TryzW
end
