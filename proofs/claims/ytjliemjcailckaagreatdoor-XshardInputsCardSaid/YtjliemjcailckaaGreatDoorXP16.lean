/- Parts of the proof: XiRep, Xikn, Xirun, Xilaw. -/
import Derived.Test.YtjliemjcailckaaGreatDoorXP15
import Derived.Ground.Names2Prog
import Derived.Shelf.Strings.Repeat
import Derived.Test.YtjliemjcailckaaGreatDoorProg
set_option linter.unusedVariables false
set_option linter.unusedSimpArgs false
set_option linter.unusedSectionVars false
section
namespace Go.Proofs
open Go.Shelf
def Tryz.lays105_ren:Go.Shelf.Ren:=⟨fun | 105=>148 | 212=>222 | 99=>127 | 165=>223 | 166=>224 | 170=>225 | 169=>226 | 263=>285 | 264=>286 | 206=>210 | 240=>287 | 241=>288 | 276=>335 | 277=>336 | n=>n,fun | 9=>9 | 3=>3 | 4=>4 | 20=>20 | 0=>0 | 46=>282 | 109=>345 | 5=>5 | 72=>349 | 76=>350 | 51=>294 | 146=>394 | 53=>364 | 148=>396 | 70=>347 | 37=>118 | 75=>329 | 127=>398 | 164=>432 | 80=>197 | n=>n,fun | n=>n⟩
theorem Tryz.lays105:Go.Proofs.Lays.n105 Tryz.prog Tryz.lays105_ren:={
 mixed:=by kernel_rfl
 f99:=Tryz.func127.trans (congrArg some (by kernel_rfl))
 f105:=Tryz.func148.trans (congrArg some (by kernel_rfl))
 f165:=Tryz.func223.trans (congrArg some (by kernel_rfl))
 f166:=Tryz.func224.trans (congrArg some (by kernel_rfl))
 f169:=Tryz.func226.trans (congrArg some (by kernel_rfl))
 f170:=Tryz.func225.trans (congrArg some (by kernel_rfl))
 f206:=Tryz.func210.trans (congrArg some (by kernel_rfl))
 f212:=Tryz.func222.trans (congrArg some (by kernel_rfl))
 f240:=Tryz.func287.trans (congrArg some (by kernel_rfl))
 f241:=Tryz.func288.trans (congrArg some (by kernel_rfl))
 f263:=Tryz.func285.trans (congrArg some (by kernel_rfl))
 f264:=Tryz.func286.trans (congrArg some (by kernel_rfl))
 f276:=Tryz.func335.trans (congrArg some (by kernel_rfl))
 f277:=Tryz.func336.trans (congrArg some (by kernel_rfl))
 t0:=Tryz.underlying0
 a0:=Tryz.isAgg0
 z0:=Tryz.sizeOf0
 v0:=Tryz.zeroValue0
 t3:=Tryz.underlying3
 a3:=Tryz.isAgg3
 z3:=Tryz.sizeOf3
 v3:=Tryz.zeroValue3
 t4:=Tryz.underlying4
 a4:=Tryz.isAgg4
 z4:=Tryz.sizeOf4
 v4:=Tryz.zeroValue4
 t5:=Tryz.underlying5
 a5:=Tryz.isAgg5
 z5:=Tryz.sizeOf5
 v5:=Tryz.zeroValue5
 t9:=Tryz.underlying9
 a9:=Tryz.isAgg9
 z9:=Tryz.sizeOf9
 v9:=Tryz.zeroValue9
 t20:=Tryz.underlying20
 a20:=Tryz.isAgg20
 z20:=Tryz.sizeOf20
 v20:=Tryz.zeroValue20
 t37:=Tryz.underlying118
 a37:=Tryz.isAgg118
 z37:=Tryz.sizeOf118
 v37:=Tryz.zeroValue118
 t46:=Tryz.underlying282
 a46:=Tryz.isAgg282
 z46:=Tryz.sizeOf282
 v46:=Tryz.zeroValue282
 t51:=Tryz.underlying294
 a51:=Tryz.isAgg294
 z51:=Tryz.sizeOf294
 v51:=Tryz.zeroValue294
 t53:=Tryz.underlying364
 a53:=Tryz.isAgg364
 z53:=Tryz.sizeOf364
 v53:=Tryz.zeroValue364
 t70:=Tryz.underlying347
 a70:=Tryz.isAgg347
 z70:=Tryz.sizeOf347
 v70:=Tryz.zeroValue347
 t72:=Tryz.underlying349
 a72:=Tryz.isAgg349
 z72:=Tryz.sizeOf349
 v72:=Tryz.zeroValue349
 t75:=Tryz.underlying329
 a75:=Tryz.isAgg329
 z75:=Tryz.sizeOf329
 v75:=Tryz.zeroValue329
 t76:=Tryz.underlying350
 a76:=Tryz.isAgg350
 z76:=Tryz.sizeOf350
 v76:=Tryz.zeroValue350
 t109:=Tryz.underlying345
 a109:=Tryz.isAgg345
 z109:=Tryz.sizeOf345
 v109:=Tryz.zeroValue345
 t127:=Tryz.underlying398
 a127:=Tryz.isAgg398
 z127:=Tryz.sizeOf398
 v127:=Tryz.zeroValue398
 t146:=Tryz.underlying394
 a146:=Tryz.isAgg394
 z146:=Tryz.sizeOf394
 v146:=Tryz.zeroValue394
 t148:=Tryz.underlying396
 a148:=Tryz.isAgg396
 z148:=Tryz.sizeOf396
 v148:=Tryz.zeroValue396
 t164:=Tryz.underlying432
 a164:=Tryz.isAgg432
 z164:=Tryz.sizeOf432
 v164:=Tryz.zeroValue432 }
theorem Tryz.Builder_Extra_105:Builder.Extra Tryz.prog Tryz.lays105_ren:={
 sizeBuilder:=by kernel_rfl
 liesBuilder:=by kernel_rfl
 t5:=Tryz.underlying5
 a5:=Tryz.isAgg5
 z5:=Tryz.sizeOf5
 v5:=Tryz.zeroValue5
 infoByte:=by kernel_rfl
 cellsByte:=by kernel_rfl
 sizeByte:=by kernel_rfl
 neB5:=by decide }
open Go.RowKit Go.Lib in
/-- **strings.Repeat: count ≥ 0, the result within one allocation: count copies of s.** (LAID: no walk: one application.) -/
theorem Tryz.strings_Repeat (s:ByteArray) (c:Nat) (w:World) (hc:c<=9223372036854775807) (b:s.size*c<=140737488355328) :
  Calls Tryz.prog 148 #[.string s,.int .i64 c] w fun e w'=>e=.returned (.string ⟨(Lib.repeatL s.data.toList c).toArray⟩)/\Below w.heap.size w w':=Any.strings_Repeat Tryz.lays105 Tryz.Builder_Extra_105 s c w hc b
end Go.Proofs
open Go Go.X Go.Proofs
set_option maxRecDepth 100000
set_option maxHeartbeats 4000000

namespace Go.X.TryzW
section
variable {E:Env}
theorem jf (d:E.P=Tryz.prog) (s:List UInt8) (c:Nat) (hc:c<=1000000) (hs:s.length<=1000):ZH E 148 [.str s,.int .i64 c] (.str (Lib.repeatL s c)):=by
 refine z1U ⟨Tryz.f148,by rw [d];exact Tryz.func148,by decide,by rfl⟩ fun C vs _ hG _ _ m l=>?_
 obtain ⟨a,b,rfl,r,j⟩:=two m l
 cases r;cases j
 rw [d]
 have u:s.length*c<=1000*1000000:=Nat.mul_le_mul hs hc
 refine (Tryz.strings_Repeat ⟨s.toArray⟩ c C.w od (by simp [ByteArray.size];omega)).mono fun e w' ⟨h,q⟩=>?_
 exact ⟨_,h,q,.str _⟩
end
end Go.X.TryzW
end
section
open Go Go.X Go.Proofs
set_option maxRecDepth 100000
set_option maxHeartbeats 4000000
namespace Go.X.TryzW
section
variable {E:Env}
def dbT:List IV:=[.int .u8 0,.int .u8 1,.int .u8 56,.int .u8 2,.int .u8 57,.int .u8 49,.int .u8 28,.int .u8 3,.int .u8 61,.int .u8 58,.int .u8 42,.int .u8 50,.int .u8 38,.int .u8 29,.int .u8 17,.int .u8 4,.int .u8 62,.int .u8 47,.int .u8 59,.int .u8 36,.int .u8 45,.int .u8 43,.int .u8 51,.int .u8 22,.int .u8 53,.int .u8 39,.int .u8 33,.int .u8 30,.int .u8 24,.int .u8 18,.int .u8 12,.int .u8 5,.int .u8 63,.int .u8 55,.int .u8 48,.int .u8 27,.int .u8 60,.int .u8 41,.int .u8 37,.int .u8 16,.int .u8 46,.int .u8 35,.int .u8 44,.int .u8 21,.int .u8 52,.int .u8 32,.int .u8 23,.int .u8 11,.int .u8 54,.int .u8 26,.int .u8 40,.int .u8 15,.int .u8 34,.int .u8 20,.int .u8 31,.int .u8 10,.int .u8 25,.int .u8 14,.int .u8 19,.int .u8 9,.int .u8 13,.int .u8 8,.int .u8 7,.int .u8 6]
noncomputable def glK (n:Nat):Option (List IV):=match Nat.beq n 6 with
 | true=>some dbT
 | false=>none
theorem zco:GlC glK:=fun n cs h=>by
 unfold glK at h
 split at h
 ·cases h
  refine zQ.2 fun x b=>?_
  obtain ⟨z,_,rfl⟩:∃z∈([0,1,56,2,57,49,28,3,61,58,42,50,38,29,17,4,62,47,59,36,45,43,51,22,53,39,33,30,24,18,12,5,63,55,48,27,60,41,37,16,46,35,44,21,52,32,23,11,54,26,40,15,34,20,31,10,25,14,19,9,13,8,7,6]:List Int),(.int .u8 z:IV)=x:=List.mem_map.1 (show x∈([0,1,56,2,57,49,28,3,61,58,42,50,38,29,17,4,62,47,59,36,45,43,51,22,53,39,33,30,24,18,12,5,63,55,48,27,60,41,37,16,46,35,44,21,52,32,23,11,54,26,40,15,34,20,31,10,25,14,19,9,13,8,7,6]:List Int).map fun z=>(.int .u8 z:IV) from b)
  trivial
 ·cases h
noncomputable def bitsX (args:List IV):Option IV:=match args with
 | [.raw (.float .f64 b)]=>some (.int .u64 b)
 | _=>none
noncomputable def fromX (args:List IV):Option IV:=match args with
 | [.int .u64 n]=>some (.raw (.float .f64 n.toNat))
 | _=>none
noncomputable def truncX (args:List IV):Option IV:=match args with
 | [.raw (.float .f64 0)]=>some (.raw (.float .f64 0))
 | [.raw (.float .f64 4607182418800017408)]=>some (.raw (.float .f64 4607182418800017408))
 | _=>none
noncomputable def idxX (args:List IV):Option IV:=match args with
 | [.str s,.int .u8 c]=>some (.int .i64 (Lib.indexByte s c.toNat.toUInt8))
 | _=>none
noncomputable def spX:List (FuncId × SpF):=[(214,spCop),(51,spNum0),(393,spExt idxX),(156,spSum),(98,spIns),(148,spRep),(352,spJoin 5),(383,spExt bitsX),(402,spExt fromX),(384,spExt truncX)]
noncomputable def prX:List (FuncId × PrF):=[(156,prSum),(89,prClone 1),(90,prClone 1),(197,prClone 13),(270,prClone 3),(271,prClone 3),(272,prClone 2),(148,prRep)]
noncomputable def rdX:List (FuncId × RdF):=[(156,rdSum)]
noncomputable def dfX:List (FuncId × Nat × Nat × List Nat):=[(183,5,256,[2,3]),(76,8,149,[4,5,6]),(94,8,163,[4,5,6]),(128,8,211,[4,5,6])]
noncomputable def KX:Kn:=⟨fun f=>tabR.get none f,glK,spL spX,prL prX,rdL rdX,dfL dfX⟩
theorem z7F (b:E.P=Tryz.prog) (args:List IV) (v:IV) (h:bitsX args=some v):z4q E 383 args v/\cl 0 v:=by
 unfold bitsX at h
 split at h
 ·cases h;exact ⟨z1M (fn:=Tryz.f383) (by rw [b];rfl) (by rfl) (by rfl) (by rfl) (by rfl) _,trivial⟩
 ·cases h
theorem z8g (b:E.P=Tryz.prog) (args:List IV) (v:IV) (h:fromX args=some v):z4q E 402 args v/\cl 0 v:=by
 unfold fromX at h
 split at h
 ·cases h;exact ⟨z1Y (fn:=Tryz.f402) (by rw [b];rfl) (by rfl) (by rfl) (by rfl) (by rfl) _,trivial⟩
 ·cases h
theorem z4D (b:E.P=Tryz.prog) (args:List IV) (v:IV) (h:truncX args=some v):z4q E 384 args v/\cl 0 v:=by
 unfold truncX at h
 split at h
 ·cases h;exact ⟨z4E (fn:=Tryz.f384) (by rw [b];rfl) (by rfl) (by rfl) (by rfl) (by rfl) (fun _=>by kernel_rfl) rfl,trivial⟩
 ·cases h;exact ⟨z4E (fn:=Tryz.f384) (by rw [b];rfl) (by rfl) (by rfl) (by rfl) (by rfl) (fun _=>by kernel_rfl) rfl,trivial⟩
 ·cases h
theorem zaF (b:E.P=Tryz.prog) (args:List IV) (v:IV) (h:idxX args=some v):z4q E 393 args v/\cl 0 v:=by
 unfold idxX at h
 split at h
 ·cases h;exact ⟨JW (fn:=Tryz.f393) (by rw [b];rfl) (by rfl) (by rfl) (by rfl) (by rfl) _ _,trivial⟩
 ·cases h
theorem zec (d:E.P=Tryz.prog) (hgl:E.gl=glK):z3o KX E:=by
 refine z9H d z7j hgl zco (sp:=spX) ?_ (pr:=prX) ?_ (rd:=rdX) ?_ (df:=dfX) ?_
 ·refine ⟨z7k ?_,z5f ?_,Vg ?_,z8x ?_,z7A ?_,z8j ?_,z5R ?_,Vg ?_,Vg ?_,Vg ?_,trivial⟩
  ·exact fun {E L} h=>z9S (h.trans d)
  ·exact fun {E L} h {x} j=>zaH (h.trans d) j
  ·exact fun E h=>zaF (h.trans d)
  ·exact fun {E L} h {x v lk} q j=>z2d (h.trans d) q j
  ·exact fun {E L} h {T x i kb M} l m B D w u=>z6S (h.trans d) l m B D w u
  ·exact fun {E} h s c l m=>jf (h.trans d) s c l m
  ·exact fun {E L} h {b Q O S r0 r1 r2} l m B D w u G J I A r=>z8d (h.trans d) l m B D w u G J I A r
  ·exact fun E h=>z7F (h.trans d)
  ·exact fun E h=>z8g (h.trans d)
  ·exact fun E h=>z4D (h.trans d)
 ·refine ⟨z7o ?_,yC ?_,yC ?_,yC ?_,yC ?_,yC ?_,yC ?_,z7B ?_,trivial⟩
  ·exact fun {E L} h {x v lk} q j=>z2d (h.trans d) q j
  ·exact fun rows h=>yZ (fn:=Tryz.f89) (n:=Tryz.f89.ntmps) (sz:=1) (by_:=24) (z:=[.nsl]) (by rw [d];rfl) (by rw [d];kernel_rfl) (by decide) (by decide) rfl (by decide) h
  ·exact fun rows h=>z2o (fn:=Tryz.f90) (n:=Tryz.f90.ntmps) (ty:=5) (by rw [d];rfl) (by rw [d];kernel_rfl) (by decide) (by decide) h
  ·exact fun rows h=>yZ (fn:=Tryz.f197) (n:=Tryz.f197.ntmps) (sz:=13) (by_:=168) (z:=[(.int .i64 0),(.raw (.complex .f64 0 0)),(.str []),(.str []),(.int .i64 0),(.int .i64 0),(.int .i64 0),(.str []),(.str []),(.str []),(.str []),(.str []),(.int .i64 0)]) (by rw [d];rfl) (by rw [d];kernel_rfl) (by decide) (by decide) rfl (by decide) h
  ·exact fun rows h=>yZ (fn:=Tryz.f270) (n:=Tryz.f270.ntmps) (sz:=3) (by_:=40) (z:=[(.str []),(.str []),(.bool false)]) (by rw [d];rfl) (by rw [d];kernel_rfl) (by decide) (by decide) rfl (by decide) h
  ·exact fun rows h=>yZ (fn:=Tryz.f271) (n:=Tryz.f271.ntmps) (sz:=3) (by_:=32) (z:=[(.int .i64 0),(.int .i64 0),(.str [])]) (by rw [d];rfl) (by rw [d];kernel_rfl) (by decide) (by decide) rfl (by decide) h
  ·exact fun rows h=>yZ (fn:=Tryz.f272) (n:=Tryz.f272.ntmps) (sz:=2) (by_:=32) (z:=[(.str []),(.str [])]) (by rw [d];rfl) (by rw [d];kernel_rfl) (by decide) (by decide) rfl (by decide) h
  ·exact fun {E} h s c l m=>jf (h.trans d) s c l m
 ·exact ⟨z8o (fun {E L} h {x v lk} q j=>z2d (h.trans d) q j),trivial⟩
 ·exact ⟨z8z d,z9q d,zaE d,z8r d,trivial⟩
end
end Go.X.TryzW
end
section
open Go Go.X Go.Proofs
set_option maxRecDepth 1000000
set_option maxHeartbeats 0
namespace Go.X.TryzW
theorem z6L:pcF KX (runF KX 100000) 8 []=.val (.bool true) .nil 0:=by kernel_rfl
theorem J3 {E:Env} (b:E.P=Tryz.prog) (hgl:E.gl=glK):ZH E 8 [] (.bool true):=z5B (zec b hgl) trivial z6L
end Go.X.TryzW
end
section
open Go Go.X Go.Proofs
set_option maxRecDepth 100000
set_option maxHeartbeats 4000000
namespace Go.X.TryzW
section
variable {E:Env} {ρ:Rho} {L:List Blk} {K:IV->List Blk->Prop}
def q3 : XC :=(sO [oV 6 (.bool false)] (.seq (sO [oI 7 0] (.block 0 (.loop (.seq (sO [oM 16 7,oM 17 0,oY 18 17,oB 19 .lss 16 18,oM 20 19,oG 21 20 true (.mov (.t 7)),oG 22 20 true (.bin .lss (.t 21) (oi 30)),oO 23 (.pick (.t 20) (.t 22) (.c (.bool false)))] (cT 23 .skip (.exit 0))) (.seq (.block 1 (sO [oM 27 0,oM 28 7,oO 29 (.idxS 7 (.t 27) (.t 28)),oO 30 (.loadN 7 (.t 29)),oM 31 1,oC 32 4 [.t 30,.t 31],oM 26 32,oX 33 0 26,oX 34 1 26,oO 8 (.alloc [(.int .i64 0),(.str []),(.str []),(.str []),(.int .i64 0),(.int .i64 0),(.int .i64 0),(.str []),(.str [])]),oU (.store 9 (.t 8) (.t 33)),oM 9 34] (sO [oM 36 0,oM 37 7,oO 38 (.idxS 7 (.t 36) (.t 37)),oO 39 (.loadN 7 (.t 38)),oM 40 1,oC 41 5 [.t 39,.t 40],oM 35 41,oX 42 0 35,oX 43 1 35,oO 10 (.alloc [(.int .i64 0),(.str []),(.str []),(.str []),(.int .i64 0),(.int .i64 0),(.int .i64 0),(.str []),(.str [])]),oU (.store 9 (.t 10) (.t 42)),oM 11 43] (sO [oM 45 0,oM 46 7,oO 47 (.idxS 7 (.t 45) (.t 46)),oO 48 (.loadN 7 (.t 47)),oM 49 2,oC 50 6 [.t 48,.t 49],oM 44 50,oX 51 0 44,oX 52 1 44,oO 12 (.alloc [(.int .i64 0),(.str []),(.str []),(.str []),(.str []),(.str []),(.int .i64 0)]),oU (.store 7 (.t 12) (.t 51)),oM 13 52] (sO [oM 54 0,oM 55 7,oO 56 (.idxS 7 (.t 54) (.t 55)),oO 57 (.loadN 7 (.t 56)),oM 58 2,oC 59 7 [.t 57,.t 58],oM 53 59,oX 60 0 53,oX 61 1 53,oO 14 (.alloc [(.int .i64 0),(.str []),(.str []),(.str []),(.str []),(.str []),(.int .i64 0)]),oU (.store 7 (.t 14) (.t 60)),oM 15 61] (sO [oO 62 (.loadN 9 (.t 8)),oO 63 (.loadN 9 (.t 10)),oO 64 (.ex (.eqA true [0,1,1,1,0,0,0,1,1]) [.t 62,.t 63]),oM 65 64,oG 66 65 false (.mov (.t 9)),oG 67 65 false (.mov (.t 11)),oG 68 65 false (.eqB true (.t 66) (.t 67)),oO 69 (.pick (.t 65) (.c (.bool true)) (.t 68)),oM 70 69,oG 71 70 false (.loadN 7 (.t 12)),oG 72 70 false (.loadN 7 (.t 14)),oG 73 70 false (.ex (.eqA true [0,1,1,1,1,1,0]) [.t 71,.t 72]),oO 74 (.pick (.t 70) (.c (.bool true)) (.t 73)),oM 75 74,oG 76 75 false (.mov (.t 13)),oG 77 75 false (.mov (.t 15)),oG 78 75 false (.eqB true (.t 76) (.t 77)),oO 79 (.pick (.t 75) (.c (.bool true)) (.t 78))] (cT 79 (sO [oV 6 (.bool false)] .ret) .skip))))))) (.ops [oM 24 7,oK 25 .add 24 1,oM 7 25])))))) (sO [oC 80 8 [],oM 6 80] .ret)))
theorem z7s (k st h:Int) (t f n m x:List UInt8):∃(a b c d:Int) (u v w y z:List UInt8) (q:Bool),z18 k st h t f n m x=([.int .i64 a,.str u,.str v,.str w,.int .i64 b,.int .i64 c,.int .i64 d,.str y,.str z],q):=by
 unfold z18
 repeat' split
 all_goals exact ⟨_,_,_,_,_,_,_,_,_,_,rfl⟩
theorem z7P (k:Int) (t f n d:List UInt8):∃(a b:Int) (u v w y z:List UInt8) (q:Bool),z6f k t f n d=([.int .i64 a,.str u,.str v,.str w,.str y,.str z,.int .i64 b],q):=by
 unfold z6f
 split
 all_goals exact ⟨_,_,_,_,_,_,_,_,rfl⟩
theorem z7u (hP:E.P=Tryz.prog) (hgl:E.gl=glK) {rows:List (List IV)} (j:Int) (h:List UInt8) (ag:∀r∈rows,∃k st t f n m x,r=yt k st t f n m x) (hN:rows.length<=9223372036854775807) :
  ZH E 3 [.isl rows,.int .i64 j,.str h] (.bool true):=by
 have ai:Rows 7 rows=True:=eq_true (fun r hr=>by obtain ⟨k,st,t,f,n,m,x,rfl⟩:=ag r hr;rfl)
 have aj:lenOf (.isl rows)=some rows.length:=rfl
 refine xu3 (fn:=Tryz.f3) (c:=q3) (t:=6) hP fun ρ h0 h1 h2=>?_
 unfold q3
 simp only [go_sem]
 refine wS (fun n ρ L'=>∃i:Nat,i<=rows.length/\n=rows.length - i/\ρ 0=.isl rows/\ρ 1=.int .i64 j/\ρ 2=.str h/\ρ 7=.int .i64 i) (n:=rows.length)
  ⟨0,Nat.zero_le _,rfl,by simp only [h0,go_sem],by simp only [h1,go_sem],by simp only [h2,go_sem],by simp only [go_sem]<;>rfl⟩ ?_
 clear h0 h1 h2 ρ
 rintro n ρ L' ⟨i,hi,rfl,h0,h1,h2,h7⟩
 by_cases hc:i<rows.length
 ·have e1:((i:Int)<(rows.length:Int))=True:=tO
  have e0:((0:Int)<=(i:Int))=True:=tO
  by_cases h30:i<30
  ·have l:((i:Int)<30)=True:=tO
   have hw:IntKind.i64.wrap ((i:Int)+1)=((i+1:Nat):Int):=wR
   obtain ⟨k,st,t,f,n,m,x,ax⟩:=ag _ (List.getElem_mem hc)
   have hg:rows[i]?=some (yt k st t f n m x):=by rw [List.getElem?_eq_getElem hc,ax]
   have af:rows.getD i []=yt k st t f n m x:=by rw [List.getD_eq_getElem?_getD,hg];rfl
   have ah:(yt k st t f n m x).length=7:=rfl
   have ae:(yt k st t f n m x).take 7=yt k st t f n m x:=rfl
   obtain ⟨G,Z,S,X,I,D,Q,T,s,q1,ay⟩:∃(a b c d:Int) (u v w y z:List UInt8) (q:Bool),z18 k st j t f n m x=([.int .i64 a,.str u,.str v,.str w,.int .i64 b,.int .i64 c,.int .i64 d,.str y,.str z],q):=z7s ..
   obtain ⟨V,U,A,O,B,J,Y,q2,az⟩:∃(a b:Int) (u v w y z:List UInt8) (q:Bool),z6f k t f n h=([.int .i64 a,.str u,.str v,.str w,.str y,.str z,.int .i64 b],q):=z7P ..
   have p1:=fun E (hP:E.P=Tryz.prog)=>z8k (E:=E) hP k st j t f n m x h
   have p2:=fun E (hP:E.P=Tryz.prog)=>z8E (E:=E) hP k st j t f n m x h
   have p3:=fun E (hP:E.P=Tryz.prog)=>z5Q (E:=E) hP k st j t f n m x h
   have p4:=fun E (hP:E.P=Tryz.prog)=>z6m (E:=E) hP k st j t f n m x h
   rw [ay] at p1 p2
   rw [az] at p3 p4
   have bg:∀z:IV,(z=.int .i64 j\/z=.str h)->zF (conv L' fuel zt) [.agg (yt k st t f n m x),z]=some [.agg (yt k st t f n m x),z]:=fun z hz=>by rcases hz with rfl | rfl<;>rfl
   simp only [h0,h1,h7,e0,e1,l,ai,af,ah,ae,hc,jF aj,Int.toNat_natCast,go_sem]
   refine ZP (args':=[.agg (yt k st t f n m x),.int .i64 j]) rfl (p1 _ (by exact hP)) rfl ?_
   simp only [h0,h1,h7,e0,e1,l,ai,af,ah,ae,hc,Int.toNat_natCast,llc,lln,go_sem]
   refine ZP (args':=[.agg (yt k st t f n m x),.int .i64 j]) rfl (p2 _ (by exact hP)) rfl ?_
   simp only [h0,h2,h7,e0,e1,l,ai,af,ah,ae,hc,Int.toNat_natCast,lla,llc,lln,go_sem]
   refine ZP (args':=[.agg (yt k st t f n m x),.str h]) rfl (p3 _ (by exact hP)) rfl ?_
   simp only [h0,h2,h7,e0,e1,l,ai,af,ah,ae,hc,Int.toNat_natCast,lla,lls,llc,lln,go_sem]
   refine ZP (args':=[.agg (yt k st t f n m x),.str h]) rfl (p4 _ (by exact hP)) rfl ?_
   simp only [e1,l,af,ae,Int.toNat_natCast,lla,lls,llc,lln,go_sem]
   have gM:((((L'++[(Blk.cells 9 [[IV.int IntKind.i64 G,IV.str I,IV.str D,IV.str Q,IV.int IntKind.i64 Z,IV.int IntKind.i64 S,IV.int IntKind.i64 X,IV.str T,IV.str s]])]++[(Blk.cells 9 [[IV.int IntKind.i64 0,IV.str [],IV.str [],IV.str [],IV.int IntKind.i64 0,IV.int IntKind.i64 0,IV.int IntKind.i64 0,IV.str [],IV.str []]])]).set (L'.length+1) (Blk.cells 9 [[IV.int IntKind.i64 G,IV.str I,IV.str D,IV.str Q,IV.int IntKind.i64 Z,IV.int IntKind.i64 S,IV.int IntKind.i64 X,IV.str T,IV.str s]])++[(Blk.cells 7 [[IV.int IntKind.i64 0,IV.str [],IV.str [],IV.str [],IV.str [],IV.str [],IV.int IntKind.i64 0]])]).set (L'.length+1+1) (Blk.cells 7 [[IV.int IntKind.i64 V,IV.str A,IV.str O,IV.str B,IV.str J,IV.str Y,IV.int IntKind.i64 U]])++[(Blk.cells 7 [[IV.int IntKind.i64 0,IV.str [],IV.str [],IV.str [],IV.str [],IV.str [],IV.int IntKind.i64 0]])]).set (L'.length+1+1+1) (Blk.cells 7 [[IV.int IntKind.i64 V,IV.str A,IV.str O,IV.str B,IV.str J,IV.str Y,IV.int IntKind.i64 U]]))=L'++[(Blk.cells 9 [[IV.int IntKind.i64 G,IV.str I,IV.str D,IV.str Q,IV.int IntKind.i64 Z,IV.int IntKind.i64 S,IV.int IntKind.i64 X,IV.str T,IV.str s]]),(Blk.cells 9 [[IV.int IntKind.i64 G,IV.str I,IV.str D,IV.str Q,IV.int IntKind.i64 Z,IV.int IntKind.i64 S,IV.int IntKind.i64 X,IV.str T,IV.str s]]),(Blk.cells 7 [[IV.int IntKind.i64 V,IV.str A,IV.str O,IV.str B,IV.str J,IV.str Y,IV.int IntKind.i64 U]]),(Blk.cells 7 [[IV.int IntKind.i64 V,IV.str A,IV.str O,IV.str B,IV.str J,IV.str Y,IV.int IntKind.i64 U]])]:=by simp [Nat.add_assoc]
   rw [gM]
   have g8:(L'++[(Blk.cells 9 [[IV.int IntKind.i64 G,IV.str I,IV.str D,IV.str Q,IV.int IntKind.i64 Z,IV.int IntKind.i64 S,IV.int IntKind.i64 X,IV.str T,IV.str s]]),(Blk.cells 9 [[IV.int IntKind.i64 G,IV.str I,IV.str D,IV.str Q,IV.int IntKind.i64 Z,IV.int IntKind.i64 S,IV.int IntKind.i64 X,IV.str T,IV.str s]]),(Blk.cells 7 [[IV.int IntKind.i64 V,IV.str A,IV.str O,IV.str B,IV.str J,IV.str Y,IV.int IntKind.i64 U]]),(Blk.cells 7 [[IV.int IntKind.i64 V,IV.str A,IV.str O,IV.str B,IV.str J,IV.str Y,IV.int IntKind.i64 U]])])[L'.length]?=some (Blk.cells 9 [[IV.int IntKind.i64 G,IV.str I,IV.str D,IV.str Q,IV.int IntKind.i64 Z,IV.int IntKind.i64 S,IV.int IntKind.i64 X,IV.str T,IV.str s]]):=by simp []
   have au:(L'++[(Blk.cells 9 [[IV.int IntKind.i64 G,IV.str I,IV.str D,IV.str Q,IV.int IntKind.i64 Z,IV.int IntKind.i64 S,IV.int IntKind.i64 X,IV.str T,IV.str s]]),(Blk.cells 9 [[IV.int IntKind.i64 G,IV.str I,IV.str D,IV.str Q,IV.int IntKind.i64 Z,IV.int IntKind.i64 S,IV.int IntKind.i64 X,IV.str T,IV.str s]]),(Blk.cells 7 [[IV.int IntKind.i64 V,IV.str A,IV.str O,IV.str B,IV.str J,IV.str Y,IV.int IntKind.i64 U]]),(Blk.cells 7 [[IV.int IntKind.i64 V,IV.str A,IV.str O,IV.str B,IV.str J,IV.str Y,IV.int IntKind.i64 U]])])[L'.length+1]?=some (Blk.cells 9 [[IV.int IntKind.i64 G,IV.str I,IV.str D,IV.str Q,IV.int IntKind.i64 Z,IV.int IntKind.i64 S,IV.int IntKind.i64 X,IV.str T,IV.str s]]):=by simp []
   have bf:(L'++[(Blk.cells 9 [[IV.int IntKind.i64 G,IV.str I,IV.str D,IV.str Q,IV.int IntKind.i64 Z,IV.int IntKind.i64 S,IV.int IntKind.i64 X,IV.str T,IV.str s]]),(Blk.cells 9 [[IV.int IntKind.i64 G,IV.str I,IV.str D,IV.str Q,IV.int IntKind.i64 Z,IV.int IntKind.i64 S,IV.int IntKind.i64 X,IV.str T,IV.str s]]),(Blk.cells 7 [[IV.int IntKind.i64 V,IV.str A,IV.str O,IV.str B,IV.str J,IV.str Y,IV.int IntKind.i64 U]]),(Blk.cells 7 [[IV.int IntKind.i64 V,IV.str A,IV.str O,IV.str B,IV.str J,IV.str Y,IV.int IntKind.i64 U]])])[L'.length+1+1]?=some (Blk.cells 7 [[IV.int IntKind.i64 V,IV.str A,IV.str O,IV.str B,IV.str J,IV.str Y,IV.int IntKind.i64 U]]):=by simp [Nat.add_assoc]
   have ak:(L'++[(Blk.cells 9 [[IV.int IntKind.i64 G,IV.str I,IV.str D,IV.str Q,IV.int IntKind.i64 Z,IV.int IntKind.i64 S,IV.int IntKind.i64 X,IV.str T,IV.str s]]),(Blk.cells 9 [[IV.int IntKind.i64 G,IV.str I,IV.str D,IV.str Q,IV.int IntKind.i64 Z,IV.int IntKind.i64 S,IV.int IntKind.i64 X,IV.str T,IV.str s]]),(Blk.cells 7 [[IV.int IntKind.i64 V,IV.str A,IV.str O,IV.str B,IV.str J,IV.str Y,IV.int IntKind.i64 U]]),(Blk.cells 7 [[IV.int IntKind.i64 V,IV.str A,IV.str O,IV.str B,IV.str J,IV.str Y,IV.int IntKind.i64 U]])])[L'.length+1+1+1]?=some (Blk.cells 7 [[IV.int IntKind.i64 V,IV.str A,IV.str O,IV.str B,IV.str J,IV.str Y,IV.int IntKind.i64 U]]):=by simp [Nat.add_assoc]
   generalize L'++[(Blk.cells 9 [[IV.int IntKind.i64 G,IV.str I,IV.str D,IV.str Q,IV.int IntKind.i64 Z,IV.int IntKind.i64 S,IV.int IntKind.i64 X,IV.str T,IV.str s]]),(Blk.cells 9 [[IV.int IntKind.i64 G,IV.str I,IV.str D,IV.str Q,IV.int IntKind.i64 Z,IV.int IntKind.i64 S,IV.int IntKind.i64 X,IV.str T,IV.str s]]),(Blk.cells 7 [[IV.int IntKind.i64 V,IV.str A,IV.str O,IV.str B,IV.str J,IV.str Y,IV.int IntKind.i64 U]]),(Blk.cells 7 [[IV.int IntKind.i64 V,IV.str A,IV.str O,IV.str B,IV.str J,IV.str Y,IV.int IntKind.i64 U]])]=M at g8 au bf ak ⊢
   simp only [h0,h1,h2,h7,e1,l,af,ae,Int.toNat_natCast,lla,lls,llc,lln,g8,au,bf,ak,zM,Option.map_some,hw,go_sem]
   exact ⟨rows.length - (i+1),od,i+1,od,rfl,rfl⟩
  ·have l:((i:Int)<30)=False:=fO
   simp only [h0,h7,e1,l,jF aj,go_sem]
   refine ZP (args':=[]) rfl (J3 (E:=E.noPan) hP hgl) rfl ?_
   simp only [go_sem]
   rfl
 ·have e1:((i:Int)<(rows.length:Int))=False:=fO
  simp only [h0,h7,e1,jF aj,go_sem]
  refine ZP (args':=[]) rfl (J3 (E:=E.noPan) hP hgl) rfl ?_
  simp only [go_sem]
  rfl
end
end Go.X.TryzW
end
