/- Parts of the proof: Xidf, Xinum0. -/
import Derived.Test.YtjliemjcailckaaGreatDoorXP13
import Derived.WalkKit
import Derived.Test.YtjliemjcailckaaGreatDoorProg
set_option linter.unusedVariables false
set_option linter.unusedSimpArgs false
set_option linter.unusedSectionVars false
section
open Go Go.X Go.Proofs
set_option maxRecDepth 100000
set_option maxHeartbeats 4000000
namespace Go.X.TryzW
def z6o : XC :=(.ops [oO 2 (.alloc [.nsl]),oO 3 (.alloc [(.int .i64 0)])])
def z6I : XC :=(sO [oO 6 (.build [.nsl] []),oO 7 (.box (.t 6)),oM 4 7] (sO [oM 8 0,oM 9 4,oO 10 (.call (.t 8) [.t 9])] (sO [oM 11 4,oN 12 11,oF 13 0 12,oL 14 13,oS 2 14,oU (.store 1 (.t 3) (oi 0))] .ret)))
theorem z1K:z4k Tryz.prog 256 2:=by
 intro vs w h
 match vs,h with
 | [p,q],_=>
 have d:∀w:World,(binOp BinOp.eql 20 .nilIface .nilIface).run Tryz.prog w=.ok (.bool true) w:=fun _=>by kernel_rfl
 refine callsD_of_wpS Tryz.func256 rfl fun b cs j=>?_
 apply wpS_seq
 apply wpS_region
 simp [wpOpsS,go_sem,recoverD,j,Tryz.ntmps256,Exit.thenS]
 refine wpS_of_wp ?_
 go_wp
 cases b
 simp_all [bodyPostS,results,Tryz.results256]
theorem z8z {E0:Env} (b:E0.P=Tryz.prog):zb2 E0 183 5 256 [2,3]:=by
 intro n F x1 x3 ⟨fn,s,I,l,u,_⟩ A
 have j:E0.P.funcs[183]?=some Tryz.f183:=by rw [b];rfl
 obtain rfl:Tryz.f183=fn:=Option.some.inj (j.symm.trans s)
 obtain rfl:Tryz.f183.ntmps=n:=u
 have d:Zz E0.P Tryz.f183=some ⟨Tryz.f183.ntmps,(zF (ZY Tryz.prog) Tryz.f183.results.toList).getD [],.seq z6o (.seq .bad z6I)⟩:=by rw [b];kernel_rfl
 obtain rfl:=Option.some.inj (d.symm.trans I)
 obtain ⟨rfl,rfl⟩:z6o=x1/\z6I=x3:=by
  have h:=Option.some.inj (show some (z6o,z6I)=some (x1,x3) from A)
  exact ⟨congrArg Prod.fst h,congrArg Prod.snd h⟩
 refine WN (fn:=Tryz.f183) s rfl l rfl (by decide) (by rw [b];kernel_rfl) (by rw [b];kernel_rfl) (by rw [b];kernel_rfl) (by rfl) (by rfl) ⟨Tryz.f256,by rw [b];rfl,by decide,by rfl⟩ ?_ (by rw [b];exact z1K)
 intro Q a w hd q h
 apply wp_region
 obtain ⟨r,df⟩:=a
 simp only at hd q
 subst hd
 have B:5<r.size:=by rw [q];decide
 have m:∀v:Value,(r.setIfInBounds 5 v).getD 5 undef=v:=fun v=>by rw [Zv B,if_pos rfl]
 have D:∀(fn:Fn) (first cap:Array Value) (w:World),(Instr.makeFunc fn first cap).run E0.P w=.ok (.func fn first cap) w:=fun _ _ _ _=>rfl
 have G:(List.range 2)=[0,1]:=rfl
 show wpOps E0.P _ Q [0,1] _ w
 simp [wpOps,Oper.wp,Oper.upon,Region.wanted,go_sem,Act.eval,Act.put,m,execOp,resolve,Deferred.ofValue]
 refine .inl (.inl ?_)
 simpa using h
def z6D : XC :=(.ops [oO 4 (.alloc [(.int .i64 0)]),oO 5 (.alloc [(.int .i64 0)]),oO 6 (.alloc [(.int .i64 0)])])
def z5g : XC :=(sO [oM 9 0,oO 10 (.build [.nsl,(.int .i64 0)] [(0,(1,(.t 9)))]),oO 11 (.box (.t 10)),oM 7 11] (sO [oM 12 1,oM 13 7,oO 14 (.call (.t 12) [.t 13]),oS 4 14] (.seq (sO [oM 15 7,oN 16 15,oF 17 1 16,oL 18 17,oM 19 0,oY 20 19,oB 21 .lss 18 20] (cT 21 (.ops [oM 22 7,oM 23 7,oN 24 23,oF 25 1 24,oL 26 25,oC 27 150 [.t 22,.t 26]]) .skip)) (sO [oL 28 4,oS 4 28,oU (.store 1 (.t 5) (oi 0)),oU (.store 1 (.t 6) (oi 0))] .ret))))
theorem VT:z4k Tryz.prog 163 3:=by
 intro vs w h
 match vs,h with
 | [p,q,r],_=>
 have d:∀w:World,(binOp BinOp.eql 20 .nilIface .nilIface).run Tryz.prog w=.ok (.bool true) w:=fun _=>by kernel_rfl
 refine callsD_of_wpS Tryz.func163 rfl fun b cs j=>?_
 apply wpS_seq
 apply wpS_region
 simp [wpOpsS,go_sem,recoverD,j,Tryz.ntmps163,Exit.thenS]
 refine wpS_of_wp ?_
 go_wp
 cases b
 simp_all [bodyPostS,results,Tryz.results163]
theorem zaE {E0:Env} (b:E0.P=Tryz.prog):zb2 E0 94 8 163 [4,5,6]:=by
 intro n F x1 x3 ⟨fn,s,I,l,u,_⟩ A
 have j:E0.P.funcs[94]?=some Tryz.f94:=by rw [b];rfl
 obtain rfl:Tryz.f94=fn:=Option.some.inj (j.symm.trans s)
 obtain rfl:Tryz.f94.ntmps=n:=u
 have d:Zz E0.P Tryz.f94=some ⟨Tryz.f94.ntmps,(zF (ZY Tryz.prog) Tryz.f94.results.toList).getD [],.seq z6D (.seq .bad z5g)⟩:=by rw [b];kernel_rfl
 obtain rfl:=Option.some.inj (d.symm.trans I)
 obtain ⟨rfl,rfl⟩:z6D=x1/\z5g=x3:=by
  have h:=Option.some.inj (show some (z6D,z5g)=some (x1,x3) from A)
  exact ⟨congrArg Prod.fst h,congrArg Prod.snd h⟩
 refine WN (fn:=Tryz.f94) s rfl l rfl (by decide) (by rw [b];kernel_rfl) (by rw [b];kernel_rfl) (by rw [b];kernel_rfl) (by rfl) (by rfl) ⟨Tryz.f163,by rw [b];rfl,by decide,by rfl⟩ ?_ (by rw [b];exact VT)
 intro Q a w hd q h
 apply wp_region
 obtain ⟨r,df⟩:=a
 simp only at hd q
 subst hd
 have B:8<r.size:=by rw [q];decide
 have m:∀v:Value,(r.setIfInBounds 8 v).getD 8 undef=v:=fun v=>by rw [Zv B,if_pos rfl]
 have D:∀(fn:Fn) (first cap:Array Value) (w:World),(Instr.makeFunc fn first cap).run E0.P w=.ok (.func fn first cap) w:=fun _ _ _ _=>rfl
 have G:(List.range 2)=[0,1]:=rfl
 show wpOps E0.P _ Q [0,1] _ w
 simp [wpOps,Oper.wp,Oper.upon,Region.wanted,go_sem,Act.eval,Act.put,m,execOp,resolve,Deferred.ofValue]
 refine .inl (.inl ?_)
 simpa using h
def z4Y : XC :=(.ops [oO 4 (.alloc [(.int .i64 0),(.int .i64 0),(.int .i64 0),(.int .i64 0),(.int .i64 0),(.str []),(.str []),(.str []),(.str []),(.str []),(.int .i64 0)]),oO 5 (.alloc [(.int .i64 0)]),oO 6 (.alloc [(.int .i64 0)])])
def z6u : XC :=(sO [oM 9 0,oO 10 (.build [.nsl,(.int .i64 0)] [(0,(1,(.t 9)))]),oO 11 (.box (.t 10)),oM 7 11] (sO [oM 12 1,oM 13 7,oO 14 (.call (.t 12) [.t 13]),oU (.store 11 (.t 4) (.t 14))] (.seq (sO [oM 15 7,oN 16 15,oF 17 1 16,oL 18 17,oM 19 0,oY 20 19,oB 21 .lss 18 20] (cT 21 (.ops [oM 22 7,oM 23 7,oN 24 23,oF 25 1 24,oL 26 25,oC 27 150 [.t 22,.t 26]]) .skip)) (sO [oO 28 (.loadN 11 (.t 4)),oU (.store 11 (.t 4) (.t 28)),oU (.store 1 (.t 5) (oi 0)),oU (.store 1 (.t 6) (oi 0))] .ret))))
theorem z1V:z4k Tryz.prog 211 3:=by
 intro vs w h
 match vs,h with
 | [p,q,r],_=>
 have d:∀w:World,(binOp BinOp.eql 20 .nilIface .nilIface).run Tryz.prog w=.ok (.bool true) w:=fun _=>by kernel_rfl
 refine callsD_of_wpS Tryz.func211 rfl fun b cs j=>?_
 apply wpS_seq
 apply wpS_region
 simp [wpOpsS,go_sem,recoverD,j,Tryz.ntmps211,Exit.thenS]
 refine wpS_of_wp ?_
 go_wp
 cases b
 simp_all [bodyPostS,results,Tryz.results211]
theorem z8r {E0:Env} (b:E0.P=Tryz.prog):zb2 E0 128 8 211 [4,5,6]:=by
 intro n F x1 x3 ⟨fn,s,I,l,u,_⟩ A
 have j:E0.P.funcs[128]?=some Tryz.f128:=by rw [b];rfl
 obtain rfl:Tryz.f128=fn:=Option.some.inj (j.symm.trans s)
 obtain rfl:Tryz.f128.ntmps=n:=u
 have d:Zz E0.P Tryz.f128=some ⟨Tryz.f128.ntmps,(zF (ZY Tryz.prog) Tryz.f128.results.toList).getD [],.seq z4Y (.seq .bad z6u)⟩:=by rw [b];kernel_rfl
 obtain rfl:=Option.some.inj (d.symm.trans I)
 obtain ⟨rfl,rfl⟩:z4Y=x1/\z6u=x3:=by
  have h:=Option.some.inj (show some (z4Y,z6u)=some (x1,x3) from A)
  exact ⟨congrArg Prod.fst h,congrArg Prod.snd h⟩
 refine WN (fn:=Tryz.f128) s rfl l rfl (by decide) (by rw [b];kernel_rfl) (by rw [b];kernel_rfl) (by rw [b];kernel_rfl) (by rfl) (by rfl) ⟨Tryz.f211,by rw [b];rfl,by decide,by rfl⟩ ?_ (by rw [b];exact z1V)
 intro Q a w hd q h
 apply wp_region
 obtain ⟨r,df⟩:=a
 simp only at hd q
 subst hd
 have B:8<r.size:=by rw [q];decide
 have m:∀v:Value,(r.setIfInBounds 8 v).getD 8 undef=v:=fun v=>by rw [Zv B,if_pos rfl]
 have D:∀(fn:Fn) (first cap:Array Value) (w:World),(Instr.makeFunc fn first cap).run E0.P w=.ok (.func fn first cap) w:=fun _ _ _ _=>rfl
 have G:(List.range 2)=[0,1]:=rfl
 show wpOps E0.P _ Q [0,1] _ w
 simp [wpOps,Oper.wp,Oper.upon,Region.wanted,go_sem,Act.eval,Act.put,m,execOp,resolve,Deferred.ofValue]
 refine .inl (.inl ?_)
 simpa using h
def z9Q : XC :=(.ops [oO 4 (.alloc [(.str []),(.str []),(.str []),(.str []),(.int .i64 0),(.str []),.nsl,.nsl,(.int .i64 0)]),oO 5 (.alloc [(.int .i64 0)]),oO 6 (.alloc [(.int .i64 0)])])
def z9G : XC :=(sO [oM 9 0,oO 10 (.build [.nsl,(.int .i64 0)] [(0,(1,(.t 9)))]),oO 11 (.box (.t 10)),oM 7 11] (sO [oM 12 1,oM 13 7,oO 14 (.call (.t 12) [.t 13]),oU (.store 9 (.t 4) (.t 14))] (.seq (sO [oM 15 7,oN 16 15,oF 17 1 16,oL 18 17,oM 19 0,oY 20 19,oB 21 .lss 18 20] (cT 21 (.ops [oM 22 7,oM 23 7,oN 24 23,oF 25 1 24,oL 26 25,oC 27 150 [.t 22,.t 26]]) .skip)) (sO [oO 28 (.loadN 9 (.t 4)),oU (.store 9 (.t 4) (.t 28)),oU (.store 1 (.t 5) (oi 0)),oU (.store 1 (.t 6) (oi 0))] .ret))))
theorem z2q:z4k Tryz.prog 149 3:=by
 intro vs w h
 match vs,h with
 | [p,q,r],_=>
 have d:∀w:World,(binOp BinOp.eql 20 .nilIface .nilIface).run Tryz.prog w=.ok (.bool true) w:=fun _=>by kernel_rfl
 refine callsD_of_wpS Tryz.func149 rfl fun b cs j=>?_
 apply wpS_seq
 apply wpS_region
 simp [wpOpsS,go_sem,recoverD,j,Tryz.ntmps149,Exit.thenS]
 refine wpS_of_wp ?_
 go_wp
 cases b
 simp_all [bodyPostS,results,Tryz.results149]
theorem z9q {E0:Env} (b:E0.P=Tryz.prog):zb2 E0 76 8 149 [4,5,6]:=by
 intro n F x1 x3 ⟨fn,s,I,l,u,_⟩ A
 have j:E0.P.funcs[76]?=some Tryz.f76:=by rw [b];rfl
 obtain rfl:Tryz.f76=fn:=Option.some.inj (j.symm.trans s)
 obtain rfl:Tryz.f76.ntmps=n:=u
 have d:Zz E0.P Tryz.f76=some ⟨Tryz.f76.ntmps,(zF (ZY Tryz.prog) Tryz.f76.results.toList).getD [],.seq z9Q (.seq .bad z9G)⟩:=by rw [b];kernel_rfl
 obtain rfl:=Option.some.inj (d.symm.trans I)
 obtain ⟨rfl,rfl⟩:z9Q=x1/\z9G=x3:=by
  have h:=Option.some.inj (show some (z9Q,z9G)=some (x1,x3) from A)
  exact ⟨congrArg Prod.fst h,congrArg Prod.snd h⟩
 refine WN (fn:=Tryz.f76) s rfl l rfl (by decide) (by rw [b];kernel_rfl) (by rw [b];kernel_rfl) (by rw [b];kernel_rfl) (by rfl) (by rfl) ⟨Tryz.f149,by rw [b];rfl,by decide,by rfl⟩ ?_ (by rw [b];exact z2q)
 intro Q a w hd q h
 apply wp_region
 obtain ⟨r,df⟩:=a
 simp only at hd q
 subst hd
 have B:8<r.size:=by rw [q];decide
 have m:∀v:Value,(r.setIfInBounds 8 v).getD 8 undef=v:=fun v=>by rw [Zv B,if_pos rfl]
 have D:∀(fn:Fn) (first cap:Array Value) (w:World),(Instr.makeFunc fn first cap).run E0.P w=.ok (.func fn first cap) w:=fun _ _ _ _=>rfl
 have G:(List.range 2)=[0,1]:=rfl
 show wpOps E0.P _ Q [0,1] _ w
 simp [wpOps,Oper.wp,Oper.upon,Region.wanted,go_sem,Act.eval,Act.put,m,execOp,resolve,Deferred.ofValue]
 refine .inl (.inl ?_)
 simpa using h
section
variable {E:Env} {ρ:Rho} {L:List Blk} {K:IV->List Blk->Prop}
def zfR : XC :=(.ops [oM 4 1,oO 5 (.build [(.int .i64 0)] [(0,(1,(.t 4)))]),oO 6 (.ex (.mkif 280) [.t 5]),oU (.ex .panic [.t 6])])
def q79 : XC :=(sO [oI 6 0] (.scope (sO [oM 12 0,oN 13 12,oF 14 1 13,oL 15 14,oM 7 15,oI 8 0] (.seq (sO [oM 16 7,oM 17 0,oN 18 17,oF 19 0 18,oL 20 19,oY 21 20,oB 22 .eql 16 21] (cT 22 (.ops [oM 23 0,oM 24 7,oC 25 150 [.t 23,.t 24]]) .skip)) (sO [oM 26 0,oN 27 26,oF 28 0 27,oL 29 28,oM 30 7,oO 31 (.idxS 1 (.t 29) (.t 30)),oL 32 31,oO 33 (.cvInt .i64 (.t 32)),oM 9 33] (.seq (sO [oM 34 9,oK 35 .gtr 34 7] (cT 35 (.goto 0) .skip)) (.seq (sO [oM 36 9,oM 37 0,oN 38 37,oF 39 0 38,oL 40 39,oY 41 40,oM 42 7,oB 43 .sub 41 42,oK 44 .sub 43 1,oB 45 .gtr 36 44] (cT 45 (.ops [oM 46 0,oM 47 0,oN 48 47,oF 49 0 48,oL 50 49,oY 51 50,oC 52 150 [.t 46,.t 51]]) .skip)) (sO [oM 53 0,oN 54 53,oF 55 1 54,oL 56 55,oM 57 9,oO 58 (.bin .add (oi 1) (.t 57)),oB 59 .add 56 58,oN 60 53,oF 61 1 60,oS 61 59] (.seq (.seq (.draw [oM 62 0,oN 63 62,oF 64 0 63,oL 65 64,oM 66 7,oK 67 .add 66 1,oM 68 0,oN 69 68,oF 70 1 69,oL 71 70,oO 72 (.slice 1 (.t 65) (some (.t 67)) (some (.t 71))),oY 73 72,oI 74 0]) (.block 0 (.loop (sO [oB 75 .lss 74 73] (.seq (cT 75 .skip (.exit 0)) (.seq (.block 1 (sO [oO 76 (.idxS 1 (.t 72) (.t 74)),oL 77 76,oM 11 77] (.ops [oM 78 8,oO 79 (.bin .shl (.t 78) (.c (.int .u64 8))),oM 80 11,oO 81 (.cvInt .i64 (.t 80)),oB 82 .or 79 81,oM 8 82]))) (.ops [oK 83 .add 74 1,oM 74 83]))))))) (.seq (sO [oM 84 9,oK 85 .gtr 84 0,oM 86 85,oG 87 86 true (.mov (.t 0)),oG 88 86 true (.nilck (.t 87)),oG 89 86 true (.fldA 0 (.t 88)),oG 90 86 true (.load1 (.t 89)),oG 91 86 true (.mov (.t 7)),oG 92 86 true (.bin .add (.t 91) (oi 1)),oG 93 86 true (.idxS 1 (.t 90) (.t 92)),oG 94 86 true (.load1 (.t 93)),oG 95 86 true (.bin .eql (.t 94) (.c (.int .u8 0))),oO 96 (.pick (.t 86) (.t 95) (.c (.bool false))),oM 97 96,oG 98 97 false (.mov (.t 8)),oG 99 97 false (.mov (.t 1)),oG 100 97 false (.bin .lss (.t 98) (.t 99)),oO 101 (.pick (.t 97) (.c (.bool true)) (.t 100)),oM 102 101,oG 103 102 false (.mov (.t 8)),oG 104 102 false (.mov (.t 2)),oG 105 102 false (.bin .gtr (.t 103) (.t 104)),oO 106 (.pick (.t 102) (.c (.bool true)) (.t 105))] (cT 106 (.goto 0) .skip)) (.seq (sO [oM 107 8,oM 6 107] .ret) (.seq (.label 0) (sO [oM 108 0,oM 109 7,oC 110 150 [.t 108,.t 109]] (sO [oI 6 0] .ret)))))))))))) (.cons 0 (.seq .skip (sO [oM 108 0,oM 109 7,oC 110 150 [.t 108,.t 109]] (sO [oI 6 0] .ret))) .nil)))
def q80 : XC :=(sO [oI 2 0] (sO [oM 3 0,oC 4 79 [.t 3,(oi 0),(oi 4503599627370496)],oM 2 4] .ret))
def q95 : XC :=(sO [oI 3 0] (sO [oM 5 0,oC 6 80 [.t 5],oM 4 6] (sO [oM 7 0,oN 8 7,oF 9 1 8,oL 10 9,oS 1 10] (sO [oM 11 0,oM 12 0,oN 13 12,oF 14 0 13,oL 15 14,oY 16 15,oN 17 11,oF 18 1 17,oS 18 16] (sO [oM 19 4,oM 3 19] .ret)))))
def q51 : XC :=(sO [oI 2 0,oI 3 0,oI 4 0] (sO [oO 5 (.alloc [(.int .i64 0)]),oU (.store 1 (.t 5) (oi 0))] (sO [oM 10 0,oO 11 (.mkfn (.func 95) [] [.t 5]),oC 12 94 [.t 10,.t 11],oM 9 12,oX 13 0 9,oX 14 1 9,oX 15 2 9,oM 6 13,oM 7 14,oM 8 15] (.seq (sO [oM 16 8,oK 17 .neq 16 0] (cT 17 (sO [oM 18 7,oM 19 8,oI 2 0,oM 3 18,oM 4 19] .ret) .skip)) (.seq (.draw [oM 20 6,oL 21 5,oM 2 20,oM 3 21,oI 4 0]) .ret)))))
theorem z2Z {k:Blk} {t:Nat} {b:Blk} (h:L[t]?=some b):(L++[k])[t]?=some b:=by rw [List.getElem?_append_left (zk h)];exact h
def z96 (x:IV) (n:Nat):Blk:=.cells 2 [[x,.int .i64 n]]
def z1R (n:Int):IV:=.iface 280 (.agg [.int .i64 n])
theorem za5 (d:E.P=Tryz.prog) {e:IV} {n:Int}:XTP E 150 [e,.int .i64 n] L (fun _ _=>False) fun x L'=>x=z1R n/\L'=L:=by
 refine xtl (n:=Tryz.f150.ntmps) (rs:=[]) (c:=zfR) (by rw [d];rfl) (by rw [d];kernel_rfl) (by decide) (Nat.le_of_ble_eq_true rfl) ?_
 generalize b:entry _=ρ
 have j:ρ 0=e:=by rw [<-b];rfl
 have h:ρ 1=.int .i64 n:=by rw [<-b];rfl
 clear b
 unfold zfR
 simp only [h,go_sem]
 exact ⟨rfl,rfl⟩
theorem z5E (l:E.P=Tryz.prog) {p:Nat} {x:IV} {b j:Int} (lo:lenOf x=some 0) (m:L[p]?=some (z96 x 0)) :
  XTP E 79 [.ptr p 0 0,.int .i64 b,.int .i64 j] L (fun _ _=>False) fun x L'=>x=z1R 0/\L'=L:=by
 have lp:=YA m
 unfold z96 at m
 refine xtl (n:=Tryz.f79.ntmps) (rs:=[.tmp 6]) (c:=q79) (by rw [l];rfl) (by rw [l];kernel_rfl) (by decide) (Nat.le_of_ble_eq_true rfl) ?_
 generalize d:entry _=ρ
 have q:ρ 0=.ptr p 0 0:=by rw [<-d];rfl
 have s:ρ 1=.int .i64 b:=by rw [<-d];rfl
 have u:ρ 2=.int .i64 j:=by rw [<-d];rfl
 clear d
 unfold q79
 simp only [go_sem]
 refine zaI (fun _ _ _=>False) 0 ?_ (fun _ _ _ h=>h.elim)
 have r:(((0:Nat):Int)=((0:Nat):Int))=True:=eq_true rfl
 simp only [q,m,jF lo,go_sem]
 exact VA (za5 (by exact l)) (fun _ _ h=>h.elim) fun _ _ h=>h
theorem z7J (d:E.P=Tryz.prog) {p:Nat} {x:IV} (lo:lenOf x=some 0) (l:L[p]?=some (z96 x 0)):XTP E 80 [.ptr p 0 0] L (fun _ _=>False) fun x L'=>x=z1R 0/\L'=L:=by
 refine xtl (n:=Tryz.f80.ntmps) (rs:=[.tmp 2]) (c:=q80) (by rw [d];rfl) (by rw [d];kernel_rfl) (by decide) (Nat.le_of_ble_eq_true rfl) ?_
 generalize b:entry _=ρ
 have j:ρ 0=.ptr p 0 0:=by rw [<-b];rfl
 clear b
 unfold q80
 simp only [j,go_sem]
 exact VA (z5E (by exact d) lo l) (fun _ _ h=>h.elim) fun _ _ h=>h
theorem z9m (j:E.P=Tryz.prog) {p b:Nat} {x:IV} (lo:lenOf x=some 0) (m:L[p]?=some (z96 x 0)):XTP E 95 [.ptr p 0 0,.ptr b 0 0] L (fun _ _=>False) fun x L'=>x=z1R 0/\L'=L:=by
 refine xtl (n:=Tryz.f95.ntmps) (rs:=[.tmp 3]) (c:=q95) (by rw [j];rfl) (by rw [j];kernel_rfl) (by decide) (Nat.le_of_ble_eq_true rfl) ?_
 generalize d:entry _=ρ
 have l:ρ 0=.ptr p 0 0:=by rw [<-d];rfl
 have q:ρ 1=.ptr b 0 0:=by rw [<-d];rfl
 clear d
 unfold q95
 simp only [l,go_sem]
 exact VA (z7J (by exact j) lo m) (fun _ _ h=>h.elim) fun _ _ h=>h
def rC : XC :=(.block 0 (sO [oO 9 (.isNil 1 false (.t 7))] (cT 9 (.ops [oM 3 7]) (sO [oO 10 (.ex (.tas 280) [.t 7]),oX 11 1 10,oX 12 0 10] (cT 11 (sO [oO 4 (.alloc [(.int .i64 0)]),oS 4 12] (sO [oI 5 0] (.drawR [(oM 13 5,([],false)),(oF 14 0 4,([],false)),(oL 15 14,([],true)),(oS 0 13,([2],false)),(oS 1 15,([],false)),(oU (.store 1 (.t 2) (oi 2)),([],false))]))) (sO [oM 6 7] (.ops [oM 8 6,oU (.ex .panic [.t 8])])))))))
theorem zbL {x y z n:Int} (M:List Blk) (p:Nat) (j:M[p]?=some (.cells 1 [[.int .i64 x]])) (h:M[p+1]?=some (.cells 1 [[.int .i64 y]])) (d:M[p+2]?=some (.cells 1 [[.int .i64 z]])) :
  Za (E.defr (fun _ _=>False) 0 (fun _=>undef) []) rC (put (entry [.ptr p 0 0,.ptr (p+1) 0 0,.ptr (p+2) 0 0]) (some 7) (z1R n)) M
  fun e _ L'=>(e=.ret\/e=.normal)/\L'[p]?=some (.cells 1 [[.int .i64 0]])/\L'[p+1]?=some (.cells 1 [[.int .i64 n]])/\L'[p+2]?=some (.cells 1 [[.int .i64 2]])/\Keep (fun t=>t=p\/t=p+1\/t=p+2) M L':=by
 generalize b:entry [.ptr p 0 0,.ptr (p+1) 0 0,.ptr (p+2) 0 0]=ρ
 have r:ρ 0=.ptr p 0 0:=by rw [<-b];rfl
 have s:ρ 1=.ptr (p+1) 0 0:=by rw [<-b];rfl
 have w:ρ 2=.ptr (p+2) 0 0:=by rw [<-b];rfl
 clear b
 have u:=YA j
 have A:=YA h
 have q:=YA d
 have l:(p=p+1)=False:=fO
 have m:(p+1=p)=False:=fO
 have q3:(p=p+2)=False:=fO
 have q4:(p+2=p)=False:=fO
 have q5:(p+1=p+2)=False:=fO
 have q6:(p+2=p+1)=False:=fO
 unfold rC z1R
 simp only [r,s,w,j,h,d,u,A,q,l,m,q3,q4,q5,q6,go_sem]
 exact ⟨.inr trivial,kQ⟩
theorem zaB (m:E.P=Tryz.prog) {b:Nat} {x:IV} (lx:lenOf x=some 0) (J:cellsOf x=[x]) (af:zU x=true) :
  XT E 94 [x,.fn (.func 95) [] [.ptr b 0 0]] L fun r L'=>r=.tup [.int .i64 0,.int .i64 0,.int .i64 2]/\Keep none' L L':=by
 let L0:=L++[Blk.cells 1 [[.int .i64 0]]]++[.cells 1 [[.int .i64 0]]]++[.cells 1 [[.int .i64 0]]]
 have k0:Keep none' L L0:=by show Keep none' L (L++[Blk.cells 1 [[.int .i64 0]]]++[.cells 1 [[.int .i64 0]]]++[.cells 1 [[.int .i64 0]]]);exact kP
 have g0:L0[L.length]?=some (.cells 1 [[.int .i64 0]]):=by show (L++[Blk.cells 1 [[.int .i64 0]]]++[.cells 1 [[.int .i64 0]]]++[.cells 1 [[.int .i64 0]]])[L.length]?=_;simp []
 have g1:L0[L.length+1]?=some (.cells 1 [[.int .i64 0]]):=by show (L++[Blk.cells 1 [[.int .i64 0]]]++[.cells 1 [[.int .i64 0]]]++[.cells 1 [[.int .i64 0]]])[L.length+1]?=_;simp []
 have X:L0[L.length+2]?=some (.cells 1 [[.int .i64 0]]):=by show (L++[Blk.cells 1 [[.int .i64 0]]]++[.cells 1 [[.int .i64 0]]]++[.cells 1 [[.int .i64 0]]])[L.length+2]?=_;simp []
 refine z14 (fn:=Tryz.f94) (x1:=z6D) (x3:=z5g) (rs:=[.cell1 4,.cell1 5,.cell1 6]) (d:=8) (k:=163) (lo:=7) (caps:=[4,5,6])
  (M:=fun j L1=>j 0=x/\j 1=.fn (.func 95) [] [.ptr b 0 0]/\j 4=.ptr L.length 0 0/\j 5=.ptr (L.length+1) 0 0/\j 6=.ptr (L.length+2) 0 0/\L1=L0) (PQ:=fun _ v M=>v=z1R 0/\M=L0++[z96 x 0])
  (by rw [m];rfl) rfl (by decide) (Nat.le_of_ble_eq_true rfl) (by decide) (by rw [m];kernel_rfl) (by rw [m];kernel_rfl) (by rw [m];kernel_rfl) (by rfl) ⟨Tryz.f163,by rw [m];rfl,by decide,by rfl⟩ ?_ (by rfl) ?_ ?_ ?_ (by rw [m];exact VT)
 ·intro Q a w hd S h
  apply wp_region
  obtain ⟨V,df⟩:=a
  simp only at hd S
  subst hd
  have s:8<V.size:=by rw [S];decide
  have I:∀v:Value,(V.setIfInBounds 8 v).getD 8 undef=v:=fun v=>by rw [Zv s,if_pos rfl]
  have ae:∀(fn:Fn) (first cap:Array Value) (w:World),(Instr.makeFunc fn first cap).run E.P w=.ok (.func fn first cap) w:=fun _ _ _ _=>rfl
  have ag:(List.range 2)=[0,1]:=rfl
  show wpOps E.P _ Q [0,1] _ w
  simp [wpOps,Oper.wp,Oper.upon,Region.wanted,go_sem,Act.eval,Act.put,I,execOp,resolve,Deferred.ofValue]
  refine .inl (.inl ?_)
  simpa using h
 ·generalize l:entry _=ρ
  have u:ρ 0=x:=by rw [<-l];rfl
  have D:ρ 1=.fn (.func 95) [] [.ptr b 0 0]:=by rw [<-l];rfl
  clear l
  unfold z6D
  simp only [go_sem]
  refine ⟨u,D,?_⟩
  first | exact ⟨by simp [put],by simp [put],by simp [put],rfl⟩ | exact ⟨by simp [put],by simp [put],rfl⟩
 ·rintro j L1 ⟨u,D,G,s,A,rfl⟩ kept B
  unfold z5g
  simp only [u,D,G,s,A,J,go_sem]
  refine VA (z9m (p:=L0.length) (by exact m) lx (by unfold z96;simp)) (fun _ _ h=>h.elim) ?_
  rintro v M ⟨rfl,rfl⟩
  exact ⟨rfl,rfl⟩
 ·rintro j L1 v L' ⟨u,D,G,s,A,rfl⟩ ⟨rfl,rfl⟩
  have q:([4,5,6]:List Nat).map j=[.ptr L.length 0 0,.ptr (L.length+1) 0 0,.ptr (L.length+2) 0 0]:=by simp [G,s,A]
  rw [q]
  refine za8 (fn:=Tryz.f163) (r:=7) (x2:=rC) (by rw [m];rfl) rfl rfl (Nat.le_of_ble_eq_true rfl) (by decide) (by rw [m];kernel_rfl) (by rfl) (zn _ (fun e ρ' L' h=>?_) (zbL (L0++[z96 x 0]) L.length (z2Z g0) (z2Z g1) (z2Z X)))
  obtain ⟨he,T,U,O,hk⟩:=h
  refine ⟨he,fun ρ l=>?_⟩
  have Z:ρ 4=.ptr L.length 0 0:=by rw [l 4 (by decide)];simp only [G,go_sem]
  have Y:ρ 5=.ptr (L.length+1) 0 0:=by rw [l 5 (by decide)];simp only [s,go_sem]
  have g6:ρ 6=.ptr (L.length+2) 0 0:=by rw [l 6 (by decide)];simp only [A,go_sem]
  have l0:=YA T
  have l1:=YA U
  have l2:=YA O
  simp only [z7W,zaw,z2B,Z,Y,g6,T,U,O,go_sem]
  refine ⟨rfl,?_⟩
  have k1:Keep none' L (L0++[z96 x 0]):=Keep.app k0
  exact k1.trans hk fun t ht h=>by omega
theorem z7I (l:E.P=Tryz.prog) {x:IV} (s:lenOf x=some 0) (j:cellsOf x=[x]) (d:zU x=true):XT E 51 [x] L fun r L'=>r=.tup [.int .i64 0,.int .i64 0,.int .i64 2]/\Keep none' L L':=by
 refine xt1 (fn:=Tryz.f51) (rs:=[.tmp 2,.tmp 3,.tmp 4]) (c:=q51) l fun ρ m=>?_
 unfold q51
 simp only [m,go_sem]
 refine YH (zaB (E:=E.noPan) l (b:=L.length) s j d) ?_
 rintro r L2 ⟨rfl,q⟩
 simp only [go_sem]
 exact (Keep.app (k:=Blk.cells 1 [[IV.int IntKind.i64 0]]) Keep.refl:Keep none' L _).trans q fun _ _ h=>h
theorem zaH (j:E.P=Tryz.prog) {x:IV} (d:z4p L x []):XT E 51 [x] L fun r L'=>r=.tup [.int .i64 0,.int .i64 0,.int .i64 2]/\L'=L:=by
 refine z2e (z7I j (Vz d) (by obtain ⟨b,o,c,all,rfl,_⟩ | rfl:=d<;>rfl) (by obtain ⟨b,o,c,all,rfl,_⟩ | rfl:=d<;>rfl)) ?_
 rintro r L' ⟨rfl,h⟩
 exact ⟨h,_,rfl,rfl⟩
end
end Go.X.TryzW
end
