/- Parts of the proof: XhRep, Xhcon1, Xhfm, Xhlease1, Xhlease2, Xhshard1, Xhexec1, Xhexec2, Xhexec3, Xhst1, Xhst2, Xhst3, Xhcm1, Xhev, Xhrt, Xhro, Xhcon2, Xhkeys, Xhrq, Xhtk, Xhnx, Xhrf, Xhcm2, Xhbg, Xhq0, Xhwk, Xqp. -/
import Derived.Test.YtnmhhmbeljlndaaGreatDoorXP15
import Derived.Ground.Names2Prog
import Derived.Shelf.Strings.Repeat
import Derived.Test.YtnmhhmbeljlndaaGreatDoorProg
set_option linter.unusedVariables false
set_option linter.unusedSimpArgs false
set_option linter.unusedSectionVars false
section
namespace Go.Proofs
open Go.Shelf
def Tryz.lays105_ren:Go.Shelf.Ren:=⟨fun | 105=>159 | 212=>218 | 99=>92 | 165=>219 | 166=>220 | 170=>221 | 169=>222 | 263=>281 | 264=>282 | 206=>170 | 240=>283 | 241=>284 | 276=>321 | 277=>322 | n=>n,fun | 9=>9 | 3=>3 | 4=>4 | 20=>20 | 0=>0 | 46=>275 | 109=>320 | 5=>5 | 72=>324 | 76=>325 | 51=>311 | 146=>368 | 53=>290 | 148=>370 | 70=>322 | 37=>53 | 75=>214 | 127=>372 | 164=>398 | 80=>190 | n=>n,fun | n=>n⟩
theorem Tryz.lays105:Go.Proofs.Lays.n105 Tryz.prog Tryz.lays105_ren:={
 mixed:=by kernel_rfl
 f99:=Tryz.func92.trans (congrArg some (by kernel_rfl))
 f105:=Tryz.func159.trans (congrArg some (by kernel_rfl))
 f165:=Tryz.func219.trans (congrArg some (by kernel_rfl))
 f166:=Tryz.func220.trans (congrArg some (by kernel_rfl))
 f169:=Tryz.func222.trans (congrArg some (by kernel_rfl))
 f170:=Tryz.func221.trans (congrArg some (by kernel_rfl))
 f206:=Tryz.func170.trans (congrArg some (by kernel_rfl))
 f212:=Tryz.func218.trans (congrArg some (by kernel_rfl))
 f240:=Tryz.func283.trans (congrArg some (by kernel_rfl))
 f241:=Tryz.func284.trans (congrArg some (by kernel_rfl))
 f263:=Tryz.func281.trans (congrArg some (by kernel_rfl))
 f264:=Tryz.func282.trans (congrArg some (by kernel_rfl))
 f276:=Tryz.func321.trans (congrArg some (by kernel_rfl))
 f277:=Tryz.func322.trans (congrArg some (by kernel_rfl))
 t0:=Tryz.underlying0
 a0:=Tryz.isAgg0
 z0:=Tryz.sizeOf0
 v0:=Tryz.zeroValue0
 t3:=Tryz.underlying3
 a3:=Tryz.isAgg3
 z3:=Tryz.sizeOf3
 v3:=Tryz.zeroValue3
 t4:=Tryz.underlying4
 a4:=Tryz.isAgg4
 z4:=Tryz.sizeOf4
 v4:=Tryz.zeroValue4
 t5:=Tryz.underlying5
 a5:=Tryz.isAgg5
 z5:=Tryz.sizeOf5
 v5:=Tryz.zeroValue5
 t9:=Tryz.underlying9
 a9:=Tryz.isAgg9
 z9:=Tryz.sizeOf9
 v9:=Tryz.zeroValue9
 t20:=Tryz.underlying20
 a20:=Tryz.isAgg20
 z20:=Tryz.sizeOf20
 v20:=Tryz.zeroValue20
 t37:=Tryz.underlying53
 a37:=Tryz.isAgg53
 z37:=Tryz.sizeOf53
 v37:=Tryz.zeroValue53
 t46:=Tryz.underlying275
 a46:=Tryz.isAgg275
 z46:=Tryz.sizeOf275
 v46:=Tryz.zeroValue275
 t51:=Tryz.underlying311
 a51:=Tryz.isAgg311
 z51:=Tryz.sizeOf311
 v51:=Tryz.zeroValue311
 t53:=Tryz.underlying290
 a53:=Tryz.isAgg290
 z53:=Tryz.sizeOf290
 v53:=Tryz.zeroValue290
 t70:=Tryz.underlying322
 a70:=Tryz.isAgg322
 z70:=Tryz.sizeOf322
 v70:=Tryz.zeroValue322
 t72:=Tryz.underlying324
 a72:=Tryz.isAgg324
 z72:=Tryz.sizeOf324
 v72:=Tryz.zeroValue324
 t75:=Tryz.underlying214
 a75:=Tryz.isAgg214
 z75:=Tryz.sizeOf214
 v75:=Tryz.zeroValue214
 t76:=Tryz.underlying325
 a76:=Tryz.isAgg325
 z76:=Tryz.sizeOf325
 v76:=Tryz.zeroValue325
 t109:=Tryz.underlying320
 a109:=Tryz.isAgg320
 z109:=Tryz.sizeOf320
 v109:=Tryz.zeroValue320
 t127:=Tryz.underlying372
 a127:=Tryz.isAgg372
 z127:=Tryz.sizeOf372
 v127:=Tryz.zeroValue372
 t146:=Tryz.underlying368
 a146:=Tryz.isAgg368
 z146:=Tryz.sizeOf368
 v146:=Tryz.zeroValue368
 t148:=Tryz.underlying370
 a148:=Tryz.isAgg370
 z148:=Tryz.sizeOf370
 v148:=Tryz.zeroValue370
 t164:=Tryz.underlying398
 a164:=Tryz.isAgg398
 z164:=Tryz.sizeOf398
 v164:=Tryz.zeroValue398 }
theorem Tryz.Builder_Extra_105:Builder.Extra Tryz.prog Tryz.lays105_ren:={
 sizeBuilder:=by kernel_rfl
 liesBuilder:=by kernel_rfl
 t5:=Tryz.underlying5
 a5:=Tryz.isAgg5
 z5:=Tryz.sizeOf5
 v5:=Tryz.zeroValue5
 infoByte:=by kernel_rfl
 cellsByte:=by kernel_rfl
 sizeByte:=by kernel_rfl
 neB5:=by decide }
open Go.RowKit Go.Lib in
/-- **strings.Repeat: count ≥ 0, the result within one allocation: count copies of s.** (LAID: no walk: one application.) -/
theorem Tryz.strings_Repeat (s:ByteArray) (c:Nat) (w:World) (hc:c<=9223372036854775807) (b:s.size*c<=140737488355328) :
  Calls Tryz.prog 159 #[.string s,.int .i64 c] w fun e w'=>e=.returned (.string ⟨(Lib.repeatL s.data.toList c).toArray⟩)/\Below w.heap.size w w':=Any.strings_Repeat Tryz.lays105 Tryz.Builder_Extra_105 s c w hc b
end Go.Proofs
open Go Go.X Go.Proofs
set_option maxRecDepth 100000
set_option maxHeartbeats 4000000

namespace Go.X.TryzW
section
variable {E:Env}
theorem V7 (d:E.P=Tryz.prog) (s:List UInt8) (c:Nat) (hc:c<=1000000) (hs:s.length<=1000):zD E 159 [.str s,.int .i64 c] (.str (Lib.repeatL s c)):=by
 refine z5z ⟨Tryz.f159,by rw [d];exact Tryz.func159,by decide,by rfl⟩ fun C vs _ hG _ _ l j=>?_
 obtain ⟨a,b,rfl,h1,h2⟩:=two l j
 cases h1;cases h2
 rw [d]
 have p:s.length*c<=1000*1000000:=Nat.mul_le_mul hs hc
 refine (Tryz.strings_Repeat ⟨s.toArray⟩ c C.w od (by simp [ByteArray.size];omega)).mono fun e w' ⟨h,m⟩=>?_
 exact ⟨_,h,m,.str _⟩
end
end Go.X.TryzW
end
section
open Go Go.X Go.Proofs
set_option maxRecDepth 100000
set_option maxHeartbeats 4000000
namespace Go.X.TryzW
section
variable {E:Env} {ρ:Rho} {L:List Blk} {K:IV->List Blk->Prop}
def vG (P:Program):Tab where
 T:=zik P
 pre:=fun f args=>match f,args with
  | 159,[.str s,.int .i64 (.ofNat c)]=>if c<=1000000/\s.length<=1000 then some (.str (Lib.repeatL s c)) else none
  | _,_=>none
 ext:=fun f args=>match f,args with
  | 335,[.raw (.float .f64 b)]=>some (.int .u64 b)
  | 365,[.int .u64 n]=>some (.raw (.float .f64 n.toNat))
  | 336,[.raw (.float .f64 0)]=>some (.raw (.float .f64 0))
  | 336,[.raw (.float .f64 4607182418800017408)]=>some (.raw (.float .f64 4607182418800017408))
  | _,_=>none
theorem Z8 (b:E.P=Tryz.prog):zgE E (vG Tryz.prog) where
 T:=by rw [b];exact zeu
 pre:=fun f args r h=>by
  simp only [vG] at h
  split at h
  ·split at h
   ·rename_i hc;cases h;exact V7 b _ _ hc.1 hc.2
   ·cases h
  ·cases h
 ext:=fun f args r h=>by
  simp only [vG] at h
  split at h
  ·cases h;exact z5h (fn:=Tryz.f335) (by rw [b];rfl) (by rfl) (by rfl) (by rfl) (by rfl) _
  ·cases h;exact z4m (fn:=Tryz.f365) (by rw [b];rfl) (by rfl) (by rfl) (by rfl) (by rfl) _
  ·cases h;exact z8L (fn:=Tryz.f336) (by rw [b];rfl) (by rfl) (by rfl) (by rfl) (by rfl) (fun _=>by kernel_rfl) rfl
  ·cases h;exact z8L (fn:=Tryz.f336) (by rw [b];rfl) (by rfl) (by rfl) (by rfl) (by rfl) (fun _=>by kernel_rfl) rfl
  ·cases h
theorem zei (gl:Nat->Option (List IV)):yw (vG Tryz.prog) gl 300 30 274 [.int .i64 1]=some (.str [108,101,97,115,101,47,49]):=by kernel_rfl
theorem z3x (b:E.P=Tryz.prog):zD E 274 [.int .i64 1] (.str [108,101,97,115,101,47,49]):=zy (Z8 b) (zei E.gl)
theorem z3P (gl:Nat->Option (List IV)):yw (vG Tryz.prog) gl 300 30 37 [.str [102,97,97],.int .i64 3]=some (.int .i64 1):=by kernel_rfl
theorem vN (b:E.P=Tryz.prog):zD E 37 [.str [102,97,97],.int .i64 3] (.int .i64 1):=zy (Z8 b) (z3P E.gl)
theorem zaF (gl:Nat->Option (List IV)):yw (vG Tryz.prog) gl 300 30 8 [.int .i64 0]=some (.str [102,97,97]):=by kernel_rfl
theorem Yy (b:E.P=Tryz.prog):zD E 8 [.int .i64 0] (.str [102,97,97]):=zy (Z8 b) (zaF E.gl)
theorem z7K (gl:Nat->Option (List IV)):yw (vG Tryz.prog) gl 300 30 36 [.str [102,97,97]]=some (.bool true):=by kernel_rfl
theorem jo (b:E.P=Tryz.prog):zD E 36 [.str [102,97,97]] (.bool true):=zy (Z8 b) (z7K E.gl)
theorem z5k (gl:Nat->Option (List IV)):yw (vG Tryz.prog) gl 300 30 44 [.int .i64 0]=some (.str [110,47,48,48,48]):=by kernel_rfl
theorem VI (b:E.P=Tryz.prog):zD E 44 [.int .i64 0] (.str [110,47,48,48,48]):=zy (Z8 b) (z5k E.gl)
theorem z3p (gl:Nat->Option (List IV)):yw (vG Tryz.prog) gl 300 30 45 [.int .i64 0]=some (.str [115,47,48,48,48]):=by kernel_rfl
theorem Yc (b:E.P=Tryz.prog):zD E 45 [.int .i64 0] (.str [115,47,48,48,48]):=zy (Z8 b) (z3p E.gl)
theorem z1M (gl:Nat->Option (List IV)):yw (vG Tryz.prog) gl 300 30 34 [.int .i64 0]=some (.str [101,47,48,48,48,47]):=by kernel_rfl
theorem WG (b:E.P=Tryz.prog):zD E 34 [.int .i64 0] (.str [101,47,48,48,48,47]):=zy (Z8 b) (z1M E.gl)
theorem z09 (gl:Nat->Option (List IV)):yw (vG Tryz.prog) gl 300 30 116 [.int .i64 0]=some (.str [114,47,48,48,48,47]):=by kernel_rfl
theorem Ya (b:E.P=Tryz.prog):zD E 116 [.int .i64 0] (.str [114,47,48,48,48,47]):=zy (Z8 b) (z09 E.gl)
theorem z0f (gl:Nat->Option (List IV)):yw (vG Tryz.prog) gl 300 30 213 [.int .i64 1]=some (.bool true):=by kernel_rfl
theorem Wl (b:E.P=Tryz.prog):zD E 213 [.int .i64 1] (.bool true):=zy (Z8 b) (z0f E.gl)
theorem z4v (gl:Nat->Option (List IV)):yw (vG Tryz.prog) gl 300 30 28 [.int .i64 0]=some (.str [109,47,48,48]):=by kernel_rfl
theorem z1X (b:E.P=Tryz.prog):zD E 28 [.int .i64 0] (.str [109,47,48,48]):=zy (Z8 b) (z4v E.gl)
theorem z4P (gl:Nat->Option (List IV)):yw (vG Tryz.prog) gl 300 30 28 [.int .i64 1]=some (.str [109,47,48,49]):=by kernel_rfl
theorem z2h (b:E.P=Tryz.prog):zD E 28 [.int .i64 1] (.str [109,47,48,49]):=zy (Z8 b) (z4P E.gl)
theorem z5r (gl:Nat->Option (List IV)):yw (vG Tryz.prog) gl 300 30 28 [.int .i64 2]=some (.str [109,47,48,50]):=by kernel_rfl
theorem z2k (b:E.P=Tryz.prog):zD E 28 [.int .i64 2] (.str [109,47,48,50]):=zy (Z8 b) (z5r E.gl)
def zln : XC :=(sO [oV 4 (.str [])] (sO [oM 5 0,oM 6 1,oC 7 217 [.t 5,.t 6],oM 4 7] .ret))
def zlK : XC :=(sO [oV 4 (.str [])] (.seq (sO [oM 10 1,oK 11 .eql 10 10] (cT 11 (.seq (sO [oM 12 0,oO 13 (.bin .leq (oi 0) (.t 12)),oM 14 13,oG 15 14 true (.mov (.t 0)),oG 16 14 true (.bin .lss (.t 15) (oi 100)),oO 17 (.pick (.t 14) (.t 16) (.c (.bool false)))] (cT 17 (sO [oM 18 0,oC 19 277 [.t 18],oM 4 19] .ret) .skip)) (sO [oO 5 (.alloc [(.int .u8 0),(.int .u8 0),(.int .u8 0),(.int .u8 0),(.int .u8 0),(.int .u8 0),(.int .u8 0),(.int .u8 0),(.int .u8 0),(.int .u8 0),(.int .u8 0),(.int .u8 0),(.int .u8 0),(.int .u8 0),(.int .u8 0),(.int .u8 0),(.int .u8 0),(.int .u8 0),(.int .u8 0),(.int .u8 0),(.int .u8 0),(.int .u8 0),(.int .u8 0),(.int .u8 0)])] (sO [oM 20 0,oO 21 (.cvInt .u64 (.t 20)),oM 6 21] (.seq (sO [oM 22 0,oK 23 .lss 22 0] (cT 23 (.ops [oM 24 6,oO 25 (.un .neg (.t 24)),oM 6 25]) .skip)) (sO [oM 26 6,oC 27 278 [.t 26],oM 7 27] (.seq .bad (.seq (sO [oM 33 0,oK 34 .lss 33 0] (cT 34 (sO [oO 35 (.idxA 24 1 (.t 5) (oi 0)),oU (.store 1 (.t 35) (.c (.int .u8 45)))] (.seq .bad .ret)) .skip)) (.seq .bad .ret)))))))) .skip)) (sO [oM 45 0,oO 46 (.cvInt .u64 (.t 45)),oM 47 1,oM 48 0,oK 49 .lss 48 0,oC 50 280 [(.c .nsl),.t 46,.t 47,.t 49,(.c (.bool false))],oM 44 50,oX 51 0 44,oX 52 1 44,oM 8 51,oM 9 52] (sO [oM 53 9,oM 4 53] .ret))))
def zks : XC :=(sO [oV 10 .nsl,oV 11 (.str [])] (.seq (sO [oM 19 2,oK 20 .lss 19 2,oM 21 20,oG 22 21 false (.mov (.t 2)),oG 23 21 false (.bin .eql (.t 22) (oi 10)),oO 24 (.pick (.t 21) (.c (.bool true)) (.t 23)),oM 25 24,oG 26 25 false (.mov (.t 2)),oG 27 25 false (.bin .gtr (.t 26) (oi 36)),oO 28 (.pick (.t 25) (.c (.bool true)) (.t 27))] (cT 28 (.ops [oO 29 (.ex (.mkif 9) [(.c (.str [115,116,114,99,111,110,118,58,32,105,108,108,101,103,97,108,32,65,112,112,101,110,100,73,110,116,47,70,111,114,109,97,116,73,110,116,32,98,97,115,101]))]),oU (.ex .panic [.t 29])]) .skip)) (sO [oO 12 (.alloc [(.int .u8 0),(.int .u8 0),(.int .u8 0),(.int .u8 0),(.int .u8 0),(.int .u8 0),(.int .u8 0),(.int .u8 0),(.int .u8 0),(.int .u8 0),(.int .u8 0),(.int .u8 0),(.int .u8 0),(.int .u8 0),(.int .u8 0),(.int .u8 0),(.int .u8 0),(.int .u8 0),(.int .u8 0),(.int .u8 0),(.int .u8 0),(.int .u8 0),(.int .u8 0),(.int .u8 0),(.int .u8 0),(.int .u8 0),(.int .u8 0),(.int .u8 0),(.int .u8 0),(.int .u8 0),(.int .u8 0),(.int .u8 0),(.int .u8 0),(.int .u8 0),(.int .u8 0),(.int .u8 0),(.int .u8 0),(.int .u8 0),(.int .u8 0),(.int .u8 0),(.int .u8 0),(.int .u8 0),(.int .u8 0),(.int .u8 0),(.int .u8 0),(.int .u8 0),(.int .u8 0),(.int .u8 0),(.int .u8 0),(.int .u8 0),(.int .u8 0),(.int .u8 0),(.int .u8 0),(.int .u8 0),(.int .u8 0),(.int .u8 0),(.int .u8 0),(.int .u8 0),(.int .u8 0),(.int .u8 0),(.int .u8 0),(.int .u8 0),(.int .u8 0),(.int .u8 0),(.int .u8 0)])] (sO [oI 13 65] (.seq (sO [oM 30 3] (cT 30 (.ops [oM 31 1,oO 32 (.un .neg (.t 31)),oM 1 32]) .skip)) (.seq (sO [oM 33 2,oC 34 319 [.t 33]] (cT 34 (sO [oM 35 2,oO 36 (.cvInt .u64 (.t 35)),oC 37 320 [.t 36],oO 38 (.cvInt .u64 (.t 37)),oM 14 38] (sO [oM 39 2,oO 40 (.cvInt .u64 (.t 39)),oM 15 40] (sO [oM 41 2,oO 42 (.cvInt .u64 (.t 41)),oO 43 (.bin .sub (.t 42) (.c (.int .u64 1))),oM 16 43] (.seq (.block 0 (.loop (.seq (sO [oM 44 1,oM 45 15,oB 46 .geq 44 45] (cT 46 .skip (.exit 0))) (.block 1 (sO [oM 47 13,oK 48 .sub 47 1,oM 13 48] (sO [oM 49 13,oM 50 1,oM 51 16,oB 52 .and 50 51,oO 53 (.idx (.c (.str [48,49,50,51,52,53,54,55,56,57,97,98,99,100,101,102,103,104,105,106,107,108,109,110,111,112,113,114,115,116,117,118,119,120,121,122])) (.t 52)),oO 54 (.idxA 65 1 (.t 12) (.t 49)),oS 54 53] (.ops [oM 55 1,oM 56 14,oB 57 .shr 55 56,oM 1 57]))))))) (sO [oM 58 13,oK 59 .sub 58 1,oM 13 59] (.ops [oM 60 13,oM 61 1,oO 62 (.idx (.c (.str [48,49,50,51,52,53,54,55,56,57,97,98,99,100,101,102,103,104,105,106,107,108,109,110,111,112,113,114,115,116,117,118,119,120,121,122])) (.t 61)),oO 63 (.idxA 65 1 (.t 12) (.t 60)),oS 63 62])))))) (sO [oM 64 2,oO 65 (.cvInt .u64 (.t 64)),oM 17 65] (.seq (.block 2 (.loop (.seq (sO [oM 66 1,oM 67 17,oB 68 .geq 66 67] (cT 68 .skip (.exit 2))) (.block 3 (sO [oM 69 13,oK 70 .sub 69 1,oM 13 70] (sO [oM 71 1,oM 72 17,oB 73 .quo 71 72,oM 18 73] (sO [oM 74 13,oM 75 1,oM 76 18,oM 77 17,oB 78 .mul 76 77,oB 79 .sub 75 78,oO 80 (.idx (.c (.str [48,49,50,51,52,53,54,55,56,57,97,98,99,100,101,102,103,104,105,106,107,108,109,110,111,112,113,114,115,116,117,118,119,120,121,122])) (.t 79)),oO 81 (.idxA 65 1 (.t 12) (.t 74)),oS 81 80] (.ops [oM 82 18,oM 1 82])))))))) (sO [oM 83 13,oK 84 .sub 83 1,oM 13 84] (.ops [oM 85 13,oM 86 1,oO 87 (.idx (.c (.str [48,49,50,51,52,53,54,55,56,57,97,98,99,100,101,102,103,104,105,106,107,108,109,110,111,112,113,114,115,116,117,118,119,120,121,122])) (.t 86)),oO 88 (.idxA 65 1 (.t 12) (.t 85)),oS 88 87])))))) (.seq (sO [oM 89 3] (cT 89 (sO [oM 90 13,oK 91 .sub 90 1,oM 13 91] (.ops [oM 92 13,oO 93 (.idxA 65 1 (.t 12) (.t 92)),oU (.store 1 (.t 93) (.c (.int .u8 45)))])) .skip)) (.seq (sO [oM 94 4] (cT 94 (sO [oM 95 0,oM 96 13,oO 97 (.ex (.sla 65) [.t 12,.t 96]),oO 98 (.ex (.appT 5 1) [.t 95,.t 97]),oM 10 98] .ret) .skip)) (sO [oM 99 13,oO 100 (.ex (.sla 65) [.t 12,.t 99]),oO 101 (.ex .bStr [.t 100]),oM 11 101] .ret)))))))))
def zkb : XC :=(sO [oI 2 0] (.seq (.cond (.c (.bool false)) (sO [oM 3 0,oO 4 (.cvInt .u32 (.t 3)),oC 5 351 [.t 4],oM 2 5] .ret) .skip) (sO [oM 6 0,oC 7 352 [.t 6],oM 2 7] .ret)))
def zk8 : XC :=(sO [oI 2 0] (.seq (sO [oM 3 0,oO 4 (.bin .eql (.t 3) (.c (.int .u64 0)))] (cT 4 (sO [oI 2 64] .ret) .skip)) (sO [oM 5 0,oM 6 0,oO 7 (.un .neg (.t 6)),oB 8 .and 5 7,oO 9 (.bin .mul (.t 8) (.c (.int .u64 285870213051353865))),oO 10 (.bin .shr (.t 9) (.c (.int .u64 58))),oO 11 (.idxA 64 1 (.g 6) (.t 10)),oL 12 11,oO 13 (.cvInt .i64 (.t 12)),oM 2 13] .ret)))
theorem zcn (gl:Nat->Option (List IV)):yw (vG Tryz.prog) gl 300 30 319 [.int .i64 16]=some (.bool true):=by kernel_rfl
theorem z8f (b:E.P=Tryz.prog):zD E 319 [.int .i64 16] (.bool true):=zy (Z8 b) (zcn E.gl)
def dbT:List IV:=[.int .u8 0,.int .u8 1,.int .u8 56,.int .u8 2,.int .u8 57,.int .u8 49,.int .u8 28,.int .u8 3,.int .u8 61,.int .u8 58,.int .u8 42,.int .u8 50,.int .u8 38,.int .u8 29,.int .u8 17,.int .u8 4,.int .u8 62,.int .u8 47,.int .u8 59,.int .u8 36,.int .u8 45,.int .u8 43,.int .u8 51,.int .u8 22,.int .u8 53,.int .u8 39,.int .u8 33,.int .u8 30,.int .u8 24,.int .u8 18,.int .u8 12,.int .u8 5,.int .u8 63,.int .u8 55,.int .u8 48,.int .u8 27,.int .u8 60,.int .u8 41,.int .u8 37,.int .u8 16,.int .u8 46,.int .u8 35,.int .u8 44,.int .u8 21,.int .u8 52,.int .u8 32,.int .u8 23,.int .u8 11,.int .u8 54,.int .u8 26,.int .u8 40,.int .u8 15,.int .u8 34,.int .u8 20,.int .u8 31,.int .u8 10,.int .u8 25,.int .u8 14,.int .u8 19,.int .u8 9,.int .u8 13,.int .u8 8,.int .u8 7,.int .u8 6]
theorem zaU (m:E.P=Tryz.prog) (hg:E.gl 6=some dbT):zD E 352 [.int .u64 16] (.int .i64 4):=by
 refine xu1 (fn:=Tryz.f352) (c:=zk8) (t:=2) m fun ρ q=>?_
 unfold zk8
 have p:band .u64 16 (IntKind.u64.wrap (-16))=16:=by decide
 have d:IntKind.u64.wrap (16*285870213051353865)=4573923408821661840:=by decide
 have h:zav .u64 4573923408821661840 58=15:=by decide
 have l:E.noPan.gl 6=some dbT:=hg
 have j:dbT.length=64:=rfl
 have b:dbT.getD 15 .und=.int .u8 4:=rfl
 have r:IntKind.i64.wrap 4=4:=by decide
 simp only [q,p,d,h,r,zbm l,j,b,go_sem]
 first | rfl | exact ⟨by decide,rfl⟩
theorem z8Y (b:E.P=Tryz.prog) (hg:E.gl 6=some dbT):zD E 320 [.int .u64 16] (.int .i64 4):=by
 refine xu1 (fn:=Tryz.f320) (c:=zkb) (t:=2) b fun ρ d=>?_
 unfold zkb
 simp only [d,go_sem]
 refine zi (args':=[.int .u64 16]) rfl (zaU (E:=E.noPan) b hg) rfl ?_
 simp only [go_sem]
 rfl
def z3Z (d:Nat):UInt8:=[48,49,50,51,52,53,54,55,56,57,97,98,99,100,101,102].getD d 48
def z0B (n:Nat):Nat->List UInt8
 | 0=>[]
 | k+1=>z3Z (n / 16^k%16)::z0B n k
def z6x:Nat->Nat->List UInt8
 | 0,n=>[z3Z (n%16)]
 | f+1,n=>if n<16 then [z3Z n] else z6x f (n / 16)++[z3Z (n%16)]
theorem z1S (n:Nat):∀k,(z0B n k).length=k
 | 0=>rfl
 | k+1=>by simp [z0B,z1S n k]
theorem z3d (n:Nat):∀k,z0B n (k+1)=z0B (n / 16) k++[z3Z (n%16)]
 | 0=>by simp [z0B]
 | k+1=>by
  have b:=z3d n k
  show z3Z (n / 16^(k+1)%16)::z0B n (k+1)=(z3Z (n / 16 / 16^k%16)::z0B (n / 16) k)++_
  rw [b,Nat.pow_succ,Nat.mul_comm,<-Nat.div_div_eq_div_mul]
  rfl
theorem z6f:∀(k f n:Nat),k<=f->n / 16^k<16->(∀j,j<k->16<=n / 16^j)->z6x f n=z3Z (n / 16^k)::z0B n k
 | 0,f,n,_,h,_=>by
  simp only [Nat.pow_zero,Nat.div_one] at h ⊢
  cases f with
  | zero=>simp [z6x,z0B,Nat.mod_eq_of_lt h]
  | succ f=>simp [z6x,z0B,h]
 | k+1,f,n,hf,h,h1=>by
  cases f with
  | zero=>omega
  | succ f=>
   have b:=h1 0 od
   simp only [Nat.pow_zero,Nat.div_one] at b
   have e1:n / 16^(k+1)=n / 16 / 16^k:=by rw [Nat.pow_succ,Nat.mul_comm,Nat.div_div_eq_div_mul]
   rw [z6x,if_neg od,z6f k f (n / 16) od (by rw [<-e1];exact h) (fun j d=>by
    have:=h1 (j+1) od
    rwa [Nat.pow_succ,Nat.mul_comm,<-Nat.div_div_eq_div_mul] at this),z3d,<-e1]
   rfl
def hexT (n:Nat):List UInt8:=z6x 20 n
theorem zfi {u:Nat} (h:u<18446744073709551616):band .u64 (u:Int) 15=((u%16:Nat):Int):=by
 unfold band
 have d:IntKind.u64.bits=64:=rfl
 rw [d]
 have e1:(BitVec.ofInt 64 (u:Int)&&&BitVec.ofInt 64 15).toNat=u%16:=by
  rw [BitVec.toNat_and,BitVec.ofInt_natCast,BitVec.toNat_ofNat,Nat.mod_eq_of_lt od]
  have b:(BitVec.ofInt 64 15).toNat=2^4 - 1:=rfl
  rw [b,Nat.and_two_pow_sub_one_eq_mod]
 rw [e1,wu64 od od]
theorem zih {u:Nat}:zav .u64 (u:Int) 4=((u / 16:Nat):Int):=by
 unfold zav
 have b:IntKind.u64.bits=64:=rfl
 rw [b]
 show (u:Int).fdiv 16=_
 rw [Int.fdiv_eq_ediv_of_nonneg _ (by decide)]
 rfl
def u8s (l:List UInt8):List IV:=l.map fun b=>.int .u8 b.toNat
def z18 (n k:Nat):List IV:=List.replicate (65 - k) (.int .u8 0)++u8s (z0B n k)
theorem zbj {n k:Nat} (b:k<=65):(z18 n k).length=65:=by simp [z18,u8s,z1S];omega
theorem z5K {n k:Nat} (h:k<65) {d:UInt8}:(z18 n k).take (64 - k)++[.int .u8 d.toNat]++(z18 n k).drop (64 - k+1)=List.replicate (64 - k) (.int .u8 0)++u8s (d::z0B n k):=by
 have e1:(z18 n k).take (64 - k)=List.replicate (64 - k) (.int .u8 0):=by
  unfold z18
  rw [List.take_append_of_le_length (by simp;omega),List.take_replicate]
  congr 1;omega
 have b:(z18 n k).drop (64 - k+1)=u8s (z0B n k):=by
  unfold z18
  rw [show 64 - k+1=(List.replicate (65 - k) (IV.int .u8 0)).length by simp;omega,List.drop_left]
 rw [e1,b]
 simp [u8s]
theorem hdig:∀d,d<16->([48,49,50,51,52,53,54,55,56,57,97,98,99,100,101,102,103,104,105,106,107,108,109,110,111,112,113,114,115,116,117,118,119,120,121,122]:List UInt8).getD d 0=z3Z d:=by decide
theorem z9v {n k:Nat} (b:k<65):(z18 n k).take (64 - k)++[.int .u8 (z3Z (n / 16^k%16)).toNat]++(z18 n k).drop (64 - k+1)=z18 n (k+1):=by
 rw [z5K b]
 unfold z18
 rw [show 65 - (k+1)=64 - k by omega]
 rfl
theorem zc7 (l:List UInt8):(u8s l).map (fun c=>[c])=zk l:=by simp [u8s,zk]
theorem z1A (T:E.P=Tryz.prog) {n:Nat} (hg:E.gl 6=some dbT) (hn:n<9223372036854775808):XT E 280 [.nsl,.int .u64 n,.int .i64 16,.bool false,.bool false] L fun r L'=>r=.tup [.nsl,.str (hexT n)]/\Keep none' L L':=by
 refine xt5 (fn:=Tryz.f280) (rs:=[.tmp 10,.tmp 11]) (c:=zks) T fun ρ h0 h1 h2 s G=>?_
 unfold zks
 simp only [h2,s,go_sem]
 obtain ⟨b,Z⟩:∃b,L.length=b:=⟨_,rfl⟩
 have hz:z18 n 0=List.replicate 65 (IV.int .u8 0):=by simp [z18,z0B,u8s]
 have U:[[IV.int .u8 0,IV.int .u8 0,IV.int .u8 0,IV.int .u8 0,IV.int .u8 0,IV.int .u8 0,IV.int .u8 0,IV.int .u8 0,IV.int .u8 0,IV.int .u8 0,IV.int .u8 0,IV.int .u8 0,IV.int .u8 0,IV.int .u8 0,IV.int .u8 0,IV.int .u8 0,IV.int .u8 0,IV.int .u8 0,IV.int .u8 0,IV.int .u8 0,IV.int .u8 0,IV.int .u8 0,IV.int .u8 0,IV.int .u8 0,IV.int .u8 0,IV.int .u8 0,IV.int .u8 0,IV.int .u8 0,IV.int .u8 0,IV.int .u8 0,IV.int .u8 0,IV.int .u8 0,IV.int .u8 0,IV.int .u8 0,IV.int .u8 0,IV.int .u8 0,IV.int .u8 0,IV.int .u8 0,IV.int .u8 0,IV.int .u8 0,IV.int .u8 0,IV.int .u8 0,IV.int .u8 0,IV.int .u8 0,IV.int .u8 0,IV.int .u8 0,IV.int .u8 0,IV.int .u8 0,IV.int .u8 0,IV.int .u8 0,IV.int .u8 0,IV.int .u8 0,IV.int .u8 0,IV.int .u8 0,IV.int .u8 0,IV.int .u8 0,IV.int .u8 0,IV.int .u8 0,IV.int .u8 0,IV.int .u8 0,IV.int .u8 0,IV.int .u8 0,IV.int .u8 0,IV.int .u8 0,IV.int .u8 0]]=[z18 n 0]:=by rw [hz];rfl
 rw [U,Z]
 have p:(L++[Blk.cells 65 [z18 n 0]])[b]?=some (.cells 65 [z18 n 0]):=by rw [<-Z];simp
 have B:Keep none' L (L++[Blk.cells 65 [z18 n 0]]):=Keep.app Keep.refl
 generalize L++[Blk.cells 65 [z18 n 0]]=L1 at *
 refine zi (args':=[.int .i64 16]) rfl (z8f (E:=E.noPan) T) rfl ?_
 have w1:IntKind.u64.wrap 16=16:=by decide
 have w2:IntKind.u64.wrap 15=15:=by decide
 have w4:IntKind.u64.wrap 4=4:=by decide
 simp only [h2,w1,go_sem]
 refine zi (args':=[.int .u64 16]) rfl (z8Y (E:=E.noPan) T hg) rfl ?_
 simp only [h2,w1,w2,w4,go_sem]
 refine zC (fun m ρ M=>∃k:Nat,k<=15/\m=n / 16^k/\ρ 10=.nsl/\ρ 1=.int .u64 ((n / 16^k:Nat):Int)/\ρ 3=.bool false/\ρ 4=.bool false/\ρ 12=.ptr b 0 0/\ρ 13=.int .i64 ((65 - k:Nat):Int)/\ρ 14=.int .u64 4/\ρ 15=.int .u64 16/\ρ 16=.int .u64 15/\M[b]?=some (.cells 65 [z18 n k])/\Keep none' L M/\∀j,j<k->16<=n / 16^j)
  ⟨0,od,rfl,by simp only [go_sem],by simp only [h1,go_sem]<;>simp,by simp only [s,go_sem],by simp only [G,go_sem],by simp only [go_sem],by simp only [go_sem]<;>rfl,by simp only [go_sem],by simp only [go_sem],by simp only [go_sem],p,B,fun j O=>by omega⟩ ?_
 clear h0 h1 h2 s G ρ p B
 rintro m ρ M ⟨k,hk,rfl,A,h1,s,G,D,v,J,w,Q,p,B,O⟩
 have lb:=zg p
 obtain ⟨u,q⟩:∃u,n / 16^k=u:=⟨_,rfl⟩
 rw [q] at h1
 have ae:u<=n:=by rw [<-q];exact Nat.div_le_self _ _
 have w5:IntKind.i64.wrap (((65 - k:Nat):Int) - 1)=((64 - k:Nat):Int):=wR
 have f0:((0:Int)<=((64 - k:Nat):Int))=True:=tO
 have f1:(((64 - k:Nat):Int)<65)=True:=tO
 have af:=zbj (n:=n) (k:=k) od
 by_cases hc:16<=u
 ·have c1:((16:Int)<=(u:Int))=True:=tO
  simp only [A,h1,s,G,D,v,J,w,Q,c1,w5,f0,f1,p,lb,zfi (show u<18446744073709551616 by omega),zih,Int.toNat_natCast,go_sem]
  rw [hdig _ (Nat.mod_lt u (by decide)),Nat.mul_one,<-q,z9v od]
  have d:k+1<=15:=by
   apply Nat.lt_of_not_le
   intro d
   have X:k=15:=by omega
   subst X
   have:n / 16^15<16:=Nat.div_lt_of_lt_mul od
   omega
  have ed:n / 16^(k+1)=n / 16^k / 16:=by rw [Nat.pow_succ,Nat.div_div_eq_div_mul]
  have R:((64 - k:Nat):Int)=((65 - (k+1):Nat):Int):=by omega
  rw [<-ed,R]
  refine ⟨od,od,n / 16^(k+1),by rw [ed,q];exact Nat.div_lt_self od (by decide),k+1,d,rfl,rfl,rfl,rfl,Keep.set B fun h=>by omega,fun j ag=>?_⟩
  by_cases hjk:j<k
  ·exact O j hjk
  ·have:j=k:=by omega
   subst this
   rw [q];exact hc
 ·have c1:((16:Int)<=(u:Int))=False:=fO
  simp only [h1,s,G,D,v,w,c1,w5,f0,f1,p,Int.toNat_natCast,go_sem]
  rw [hdig _ od,Nat.mul_one,z5K od]
  refine ⟨od,od,?_⟩
  have hR:(List.replicate (64 - k) (IV.int .u8 0)++u8s (z3Z u::z0B n k)).length=65:=by simp [u8s,z1S];omega
  have Y:(List.replicate (64 - k) (IV.int .u8 0)++u8s (z3Z u::z0B n k)).drop (64 - k)=u8s (z3Z u::z0B n k):=by
   have:64 - k=(List.replicate (64 - k) (IV.int .u8 0)).length:=by simp
   rw [this,List.drop_left' (by simp)]
  refine zfU (l:=64 - k) (by rw [List.getElem?_set_self (zf p)]) (fun c V=>?_) hR od ?_
  ·rcases List.mem_append.1 V with S | S
   ·exact ⟨_,_,List.eq_of_mem_replicate S⟩
   ·obtain ⟨b9,_,rfl⟩:=List.mem_map.1 S
    exact ⟨_,_,rfl⟩
  rw [Y,zc7]
  have I:∀M:List Blk,(yG M (.isl (zk (z3Z u::z0B n k)))).bind (zJ byteOf)=some (z3Z u::z0B n k):=fun M=>by
   show zJ byteOf (zk _)=some _
   exact YK _
  simp only [go_sem]
  rw [I]
  simp only [A,go_sem]
  refine ⟨?_,Keep.set (Keep.set B fun h=>by omega) fun h=>by omega⟩
  rw [hexT,z6f k 20 n od od O,q]
theorem z6X (b:E.P=Tryz.prog) {n:Nat} (hg:E.gl 6=some dbT) (j:n<9223372036854775808):XT E 217 [.int .i64 n,.int .i64 16] L fun r L'=>r=.str (hexT n)/\Keep none' L L':=by
 refine xt2 (fn:=Tryz.f217) (rs:=[.tmp 4]) (c:=zlK) b fun ρ l h1=>?_
 unfold zlK
 have h:IntKind.u64.wrap (n:Int)=(n:Int):=wu64 od od
 have d:((n:Int)<0)=False:=fO
 simp only [l,h1,h,d,go_sem]
 refine zh (z1A (E:=E.noPan) b hg j) ?_
 rintro r L' ⟨rfl,m⟩
 simp only [go_sem]
 exact m
theorem z0D (d:E.P=Tryz.prog) {n:Nat} (hg:E.gl 6=some dbT) (h:n<9223372036854775808):zD E 158 [.int .i64 n,.int .i64 16] (.str (hexT n)):=by
 refine zU (R:=fun r L'=>r=.str (hexT n)/\Keep none' [] L') ?_ ?_
 ·skip
  refine xt2 (fn:=Tryz.f158) (rs:=[.tmp 4]) (c:=zln) d fun ρ j h1=>?_
  unfold zln
  simp only [j,h1,go_sem]
  refine zh (z6X (E:=E.noPan) d hg h) ?_
  rintro r L' ⟨rfl,b⟩
  simp only [go_sem]
  exact b
 ·rintro r L' ⟨rfl,b⟩
  exact ⟨b,_,rfl,rfl⟩
def q19 : XC :=(sO [oO 2 (.mov oz),oI 3 0] (sO [oM 7 0,oC 8 20 [.t 7,(oi 0)],oM 6 8,oX 9 0 6,oX 10 1 6,oM 4 9,oM 5 10] (.seq (sO [oM 11 5,oK 12 .neq 11 0] (cT 12 (sO [oM 13 5,oO 2 (.mov oz),oM 3 13] .ret) .skip)) (sO [oM 14 4,oO 15 (.build [(.raw (.pointer none)),(.int .i64 0)] [(0,(1,(.t 14)))]),oO 16 (.box (.t 15)),oM 2 16,oI 3 0] .ret))))
def zlI : XC :=(sO [oO 4 (.alloc [(.int .i64 0),(.int .i64 0)]),oI 5 0] (.seq (sO [oM 6 1,oC 7 213 [.t 6],oO 8 (.un .not (.t 7))] (cT 8 (sO [oO 9 (.build [(.int .i64 0),(.int .i64 0)] []),oU (.store 2 (.t 4) (.t 9)),oI 5 1] .ret) .skip)) (sO [oM 10 0,oM 11 1,oC 12 214 [.t 10,.t 11],oU (.store 2 (.t 4) (.t 12)),oI 5 0] .ret)))
def zkv : XC :=(sO [oO 6 (.box (.t 2)),oO 8 (.alloc [(.int .i64 0),(.int .i64 0)]),oI 9 0] (.seq (.block 0 (sO [oM 13 1,oC 14 213 [.t 13],oO 15 (.un .not (.t 14)),oM 16 15,oG 17 16 false (.mov (.t 3)),oG 18 16 false (.bin .lss (.t 17) (oi 0)),oO 19 (.pick (.t 16) (.c (.bool true)) (.t 18)),oM 20 19,oG 21 20 false (.mov (.t 3)),oG 22 20 false (.bin .gtr (.t 21) (oi 2251799813685248)),oO 23 (.pick (.t 20) (.c (.bool true)) (.t 22)),oM 12 23] (cT 12 (sO [oO 24 (.build [(.int .i64 0),(.int .i64 0)] []),oU (.store 2 (.t 8) (.t 24)),oI 9 1] .ret) (.seq (.drawE [oO 26 (.loadN 2 (.t 6)),oM 27 0,oM 28 1,oQ 29 214 [.t 27,.t 28],oO 30 (.ex (.eqA true [0,0]) [.t 26,.t 29]),oM 25 30]) (cT 25 (sO [oO 31 (.build [(.int .i64 0),(.int .i64 0)] []),oU (.store 2 (.t 8) (.t 31)),oI 9 5] .ret) (sO [oF 33 1 6,oL 34 33,oK 35 .eql 34 4503599627370496,oM 32 35] (cT 32 (sO [oO 36 (.build [(.int .i64 0),(.int .i64 0)] []),oU (.store 2 (.t 8) (.t 36)),oI 9 8] .ret) .skip))))))) (sO [oM 37 3,oF 38 1 6,oL 39 38,oK 40 .add 39 1,oO 41 (.build [(.int .i64 0),(.int .i64 0)] [(0,(1,(.t 37))),(1,(1,(.t 40)))]),oO 10 (.alloc [(.int .i64 0),(.int .i64 0)]),oU (.store 2 (.t 10) (.t 41))] (.seq (sO [oM 42 0,oM 43 1,oO 44 (.loadN 2 (.t 10)),oC 45 215 [.t 42,.t 43,.t 44],oM 11 45] (sO [oM 46 11,oK 47 .neq 46 0] (cT 47 (sO [oO 48 (.build [(.int .i64 0),(.int .i64 0)] []),oM 49 11,oU (.store 2 (.t 8) (.t 48)),oM 9 49] .ret) .skip))) (sO [oM 50 0,oN 51 50,oF 52 1 51,oL 53 52,oK 54 .add 53 1,oN 55 50,oF 56 1 55,oS 56 54] (sO [oO 57 (.loadN 2 (.t 10)),oU (.store 2 (.t 8) (.t 57)),oI 9 0] .ret))))))
def zlc : XC :=(sO [oO 4 (.alloc [(.int .i64 0),(.int .i64 0)])] (.seq (.drawE [oM 11 0,oN 12 11,oF 13 0 12,oL 14 13,oM 15 1,oQ 16 274 [.t 15],oC 17 122 [.t 14,.t 16],oM 10 17,oX 18 0 10,oX 19 1 10,oM 5 18,oM 6 19]) (.seq (sO [oM 20 6,oO 21 (.un .not (.t 20))] (cT 21 (sO [oO 22 (.build [(.int .i64 0),(.int .i64 0)] [(0,(1,(.c (.int .i64 (-1)))))]),oU (.store 2 (.t 4) (.t 22))] .ret) .skip)) (sO [oM 24 5,oO 25 (.ex (.strB 5) [.t 24]),oC 26 275 [.t 25],oM 23 26,oX 27 0 23,oX 28 1 23,oX 29 2 23,oO 7 (.alloc [(.int .i64 0),(.int .i64 0)]),oU (.store 2 (.t 7) (.t 27)),oM 8 28,oM 9 29] (sO [oO 30 (.loadN 2 (.t 7)),oU (.store 2 (.t 4) (.t 30))] .ret)))))
def zlt : XC :=(sO [oO 5 (.box (.t 2)),oI 6 0] (sO [oO 10 (.loadN 2 (.t 5)),oC 11 276 [.t 10],oM 9 11,oX 12 0 9,oX 13 1 9,oM 7 12,oM 8 13] (.seq (sO [oM 14 8,oK 15 .neq 14 0] (cT 15 (sO [oM 16 8,oM 6 16] .ret) .skip)) (.seq (.drawE [oM 17 0,oN 18 17,oF 19 0 18,oL 20 19,oM 21 1,oQ 22 274 [.t 21],oM 23 7,oO 24 (.ex .bStr [.t 23]),oO 25 (.build [(.str []),(.str []),(.bool false)] [(0,(1,(.t 22))),(1,(1,(.t 24)))]),oO 26 (.bslice 3 [(.str []),(.str []),(.bool false)] 1 [(0,(.t 25))]),oC 27 89 [.t 20,(oi 0),.t 26],oM 6 27]) .ret))))
def strOf (rs:List (List IV)):List UInt8:=(zJ byteOf rs).getD []
def Plain (rs:List (List IV)):Prop:=∃s,zJ byteOf rs=some s
theorem z6I {d j:Type} {f:d->Option j}:∀{l m:List d} {x y:List j},zJ f l=some x->zJ f m=some y->zJ f (l++m)=some (x++y)
 | [],m,x,y,h,h'=>by simp only [zJ,sij] at h;subst h;simpa using h'
 | a::l,m,x,y,h,h'=>by
  simp only [zJ,List.cons_append] at h ⊢
  cases hf:f a with
  | none=>rw [hf] at h;simp at h
  | some b=>
   rw [hf] at h
   cases hl:zJ f l with
   | none=>rw [hl] at h;simp at h
   | some p=>
    rw [hl] at h
    simp only [sij] at h
    subst h
    rw [z6I hl h']
    rfl
theorem Plain.app {rs b:List (List IV)} (h:Plain rs) (d:Plain b):Plain (rs++b):=by
 obtain ⟨s,h⟩:=h
 obtain ⟨s',d⟩:=d
 exact ⟨_,z6I h d⟩
theorem Plain.str {rs:List (List IV)} (h:Plain rs):zJ byteOf rs=some (strOf rs):=by
 obtain ⟨s,h⟩:=h
 unfold strOf
 rw [h];rfl
theorem VK:∀{rs:List (List IV)} {s:List UInt8},zJ byteOf rs=some s->rs=zk s
 | [],s,h=>by simp only [zJ,sij] at h;subst h;rfl
 | r::rs,s,h=>by
  simp only [zJ] at h
  cases hf:byteOf r with
  | none=>rw [hf] at h;simp at h
  | some b=>
   rw [hf] at h
   cases hl:zJ byteOf rs with
   | none=>rw [hl] at h;simp at h
   | some d=>
    rw [hl] at h
    simp only [sij] at h
    subst h
    rw [wJ hf,VK hl]
    rfl
theorem Plain.rows {rs:List (List IV)} (h:Plain rs):zk (strOf rs)=rs:=(VK h.str).symm
theorem Plain.len {rs:List (List IV)} (h:Plain rs):(strOf rs).length=rs.length:=by
 have:=congrArg List.length h.rows
 rw [<-this];simp [zk]
theorem z3N {n:Nat} (h:n<256):byteOf [IV.int .u8 (n:Int)]=some n.toUInt8:=by
 have:=z2v n.toUInt8
 have e:((n.toUInt8).toNat:Int)=n:=by
  have:n.toUInt8.toNat=n:=by simp [Nat.toUInt8];omega
  rw [this]
 rwa [e] at this
theorem yD {n:Nat} (h:n<256^7):Plain (zL n):=by
 have d:=Zj h
 unfold zL
 refine ⟨(zn n).toUInt8::(List.range' 0 (zn n)).reverse.map fun i=>(n / 256^i%256).toUInt8,?_⟩
 have h1:∀l:List Nat,zJ byteOf (l.map fun i=>[IV.int .u8 (n / 256^i%256:Nat)])=some (l.map fun i=>(n / 256^i%256).toUInt8):=by
  intro l
  induction l with
  | nil=>rfl
  | cons a l b=>simp only [List.map_cons,zJ];rw [z3N (Nat.mod_lt _ (by decide)),b]
 simp only [zJ]
 rw [z3N od,h1]
theorem jA {o:Int} {n:Nat} (h1 : -2251799813685248<=o) (h2:o<=2251799813685248) (b:n<=4503599627370496):Plain (Zt o n):=
 (yD (by unfold wO;split<;>omega)).app (yD od)
theorem z1b {o:Int} {n:Nat} (h1 : -2251799813685248<=o) (h2:o<=2251799813685248) (h:n<=4503599627370496):(Zt o n).length<=20:=by
 have j:=zM n
 have b:=zM (wO o)
 have d:=Zj (n:=wO o) (k:=7) (by unfold wO;split<;>omega)
 have l:=Zj (n:=n) (k:=7) od
 simp only [Zt,lla]
 omega
theorem yB (s:List UInt8):(zk s).length=s.length:=by simp [zk]
theorem WB {M:List Blk} {s:List UInt8} {g:Nat} (hg:M.length=g):zJ (conv (M++[Blk.tcells 5 1 (zk s)]) fuel zF) [IV.sl g 0 s.length s.length]=some [.isl (zk s)]:=by
 subst hg
 have e1:(M++[Blk.tcells 5 1 (zk s)])[M.length]?=some (.tcells 5 1 (zk s)):=by simp
 have d:conv (M++[Blk.tcells 5 1 (zk s)]) fuel zF (IV.sl M.length 0 s.length s.length)=some (.isl (zk s)):=by
  have b:(zk s).take s.length=zk s:=List.take_of_length_le (by rw [yB];exact Nat.le_refl _)
  simp [fuel,conv,zF,b,YU (Zm s),yB]
 simp only [zJ,d]
theorem z4p {l:List OpV} {m:Nat} (d:l.length<=100000) (h:∀o∈l,o.ok/\o.key.length+o.val.length<=m):(yI l).length<=l.length*(m+17)+8:=by
 have h1:=z4T (f:=OpV.bytes) (m:=m+17) l fun o b=>by
  have:=OpV.bytes_len (h o b).1
  have:=(h o b).2
  omega
 have h2:=zM l.length
 have j:=Zj (n:=l.length) (k:=7) od
 unfold yI
 rw [lla]
 omega
def vX (d:KV) (o:Int) (n:Nat):Prop:=(d.get [108,101,97,115,101,47,49]=none/\o = -1/\n=0)\/(d.get [108,101,97,115,101,47,49]=some (strOf (Zt o n)) /\ -2251799813685248<=o/\o<=2251799813685248/\n<=4503599627370496)
def ZL (L:List Blk) (t:Nat) (F:Nat->Prop) (N:Nat) (d:KV):Prop:=∃s FS,∃sw:Int,L[t]?=some (.cells 2 [[.ptr s 0 0,.int .i64 sw]])/\zl L s FS N 0 d/\¬FS t/\F=fun u=>u=t\/FS u
theorem ZL.lt {t N:Nat} {F:Nat->Prop} {d:KV} (h:ZL L t F N d):t<L.length/\F t/\∀u,F u->u<L.length:=by
 obtain ⟨s,FS,b,h1,h2,j,rfl⟩:=h
 refine ⟨zf h1,.inl rfl,?_⟩
 rintro u (rfl | h)
 ·exact zf h1
 ·exact h2.lt.2.2 u h
theorem ZL.keep {t N:Nat} {F G:Nat->Prop} {d:KV} {L':List Blk} (h:ZL L t F N d) (j:Keep G L L') (b:∀u,F u->¬G u):ZL L' t F N d:=by
 obtain ⟨s,FS,l,h1,h2,m,rfl⟩:=h
 exact ⟨s,FS,l,j.get h1 (b _ (.inl rfl)),h2.keep j fun u p=>b _ (.inr p),m,rfl⟩
theorem zaR (b:E.P=Tryz.prog) {t N n:Nat} {F:Nat->Prop} {d:KV} {o:Int} (h:ZL L t F N d) (w:vX d o n):XT E 214 [.ptr t 0 0,.int .i64 1] L fun r L'=>r=.agg [.int .i64 o,.int .i64 n]/\Keep none' L L':=by
 obtain ⟨s,FS,J,u,A,G,rfl⟩:=h
 have j:=zg u
 refine xt2 (fn:=Tryz.f214) (rs:=[.cellN 4 2]) (c:=zlc) b fun ρ D h1=>?_
 unfold zlc
 simp (maxDischargeDepth:=12) only [D,h1,u,j,go_sem]
 refine zY (E:=E.noPan) (args':=[.int .i64 1]) rfl (z3x (E:=E.noPan) b) (fun _=>rfl) ?_
 simp (maxDischargeDepth:=12) only [go_sem]
 refine zh (z2G (E:=E.noPan) b (A.keep (Keep.app (k:=Blk.cells 2 [[IV.int .i64 0,IV.int .i64 0]]) Keep.refl:Keep none' L _) fun _ _ h=>h) _) ?_
 rintro r L1 ⟨rfl,rfl⟩
 rcases w with ⟨hg,rfl,rfl⟩ | ⟨hg,m,q,p⟩
 ·unfold zbb
  rw [hg]
  have l:(none:Option (List UInt8)).isSome=false:=rfl
  simp (maxDischargeDepth:=12) only [l,Y6,Zk,ZJ,go_sem]
  refine ⟨rfl,?_⟩
  exact kP
 ·unfold zbb
  rw [hg]
  have l:(some (strOf (Zt o n))).isSome=true:=rfl
  have e1:(some (strOf (Zt o n))).getD []=strOf (Zt o n):=rfl
  have v:=jA m q p
  have I:=z1b m q p
  have B:((strOf (Zt o n)).length<=9223372036854775807)=True:=eq_true (by rw [v.len];omega)
  simp (maxDischargeDepth:=12) only [l,e1,B,go_sem]
  refine Yr (args':=[.isl (Zt o n)]) ?_ (z0h (E:=E.noPan) b m q p) rfl rfl ?_
  ·rw [WB rfl,v.rows]
  simp (maxDischargeDepth:=12) only [Y6,Zk,ZJ,go_sem]
  refine ⟨rfl,?_⟩
  exact kP
theorem z6m (b:E.P=Tryz.prog) {t N n:Nat} {F:Nat->Prop} {d:KV} {o:Int} (h:ZL L t F N d) (j:vX d o n):XT E 214 [.ptr t 0 0,.int .i64 1] L fun r L'=>r=.agg [.int .i64 o,.int .i64 n]/\L'=L:=by
 refine zU (zaR b h j) ?_
 rintro r L' ⟨rfl,l⟩
 exact ⟨l,_,rfl,rfl⟩
theorem zdT (D:E.P=Tryz.prog) {t N n:Nat} {F:Nat->Prop} {d:KV} {o:Int} (h:ZL L t F N d) (S : -2251799813685248<=o) (V:o<=2251799813685248) (T:n<=4503599627370496) (hN:d.length<=800000) (Z:N+1000<=1099511627776) :
  XT E 215 [.ptr t 0 0,.int .i64 1,.agg [.int .i64 o,.int .i64 n]] L fun r L'=>r=.int .i64 0/\(∃F' N',N'<=N+1000/\ZL L' t F' N' (d.put [108,101,97,115,101,47,49] (strOf (Zt o n)))/\Grown F F' L L')/\Keep F L L':=by
 obtain ⟨s,FS,Y,B,X,A,rfl⟩:=h
 have I:=zg B
 have O:=jA S V T
 have ae:=z1b S V T
 refine xt3 (fn:=Tryz.f215) (rs:=[.tmp 6]) (c:=zlt) D fun ρ h0 h1 h2=>?_
 unfold zlt
 simp only [h2,go_sem]
 refine zi (args':=[.agg [.int .i64 o,.int .i64 n]]) rfl (z7V (E:=E.noPan) D S V T) rfl ?_
 simp only [h0,h1,B,I,go_sem]
 refine zY (E:=E.noPan) (args':=[.int .i64 1]) rfl (z3x (E:=E.noPan) D) (fun _=>rfl) ?_
 have hb:∀M:List Blk,(yG M (.isl (Zt o n))).bind (zJ byteOf)=some (strOf (Zt o n)):=fun M=>O.str
 simp only [hb,go_sem]
 obtain ⟨L1,v⟩:∃L1,L++[Blk.cells 2 [[IV.int IntKind.i64 o,IV.int IntKind.i64 n]]]=L1:=⟨_,rfl⟩
 have b:Keep none' L L1:=by rw [<-v];exact Keep.app Keep.refl
 rw [v]
 let ov:OpV:=⟨[108,101,97,115,101,47,49],strOf (Zt o n),false⟩
 have hfit:∀q∈[ov],q.fit:=fun q p=>by
  simp only [List.mem_singleton] at p
  subst p
  exact ⟨(show ([108,101,97,115,101,47,49]:List UInt8)≠[] by decide),(show ([108,101,97,115,101,47,49]:List UInt8).length<=200 by decide),by show (strOf (Zt o n)).length<=_;rw [O.len];omega,fun h=>by cases h⟩
 have j:=z4p (l:=[ov]) (m:=27) (Nat.le_of_ble_eq_true rfl) fun q p=>by
  simp only [List.mem_singleton] at p
  subst p
  refine ⟨(hfit ov (by simp)).ok,?_⟩
  show 7+(strOf (Zt o n)).length<=27
  rw [O.len];omega
 have j:(yI [ov]).length<=52:=j
 have R:zl (L1++[Blk.cells 3 [ov.row]]) s FS N 0 d:=X.keep (Keep.app b:Keep none' L _) fun _ _ h=>h
 refine zh (z3R (E:=E.noPan) (l:=[ov]) D R (ob:=L1.length) (by simp only [go_sem]<;>rfl) (fun h=>?_) (by simp) (Nat.le_of_ble_eq_true rfl) hfit (z2Q fun q p=>by simp only [List.mem_singleton] at p;subst p;rfl) od (by simp;omega) od) ?_
 ·have:=X.lt.2.2 _ h;have:=b.1;omega
 rintro r L2 ⟨rfl,⟨F',U,J⟩,G⟩
 simp only [go_sem]
 have w:Keep FS L L2:=(b.mono (F':=FS) fun t _ h=>h.elim).trans ((Keep.app Keep.refl:Keep none' L1 (L1++[Blk.cells 3 [ov.row]])).mono (F':=FS) (fun t _ h=>h.elim) |>.trans G fun t _ h=>h) fun t _ h=>h
 have hg:Grown FS F' L L2:=fun t Q=>by
  rcases J t Q with h | h
  ·exact .inl h
  ·right;have:=b.1;simp only [lla,llc,lln] at h;omega
 refine ⟨⟨_,_,?_,⟨s,F',Y,w.get B A,U,fun h=>?_,rfl⟩,?_⟩,w.mono fun t _ h=>.inr h⟩
 ·omega
 ·rcases hg t h with h | h
  ·exact A h
  ·have:=zf B;omega
 ·rintro u (rfl | h)
  ·exact .inl (.inl rfl)
  ·rcases hg u h with h | h
   ·exact .inl (.inr h)
   ·exact .inr h
theorem zS {L L':List Blk} (h:∀i,i<L.length->L'[i]?=L[i]?):Keep none' L L':=by
 refine ⟨?_,fun t b _=>h t b⟩
 rcases Nat.eq_zero_or_pos L.length with d | d
 ·omega
 ·have:=h (L.length - 1) od
  rw [List.getElem?_eq_getElem (l:=L) od] at this
  have:=zf this
  omega
theorem zdW (b:E.P=Tryz.prog) {t N n:Nat} {F:Nat->Prop} {d:KV} {o:Int} (h:ZL L t F N d) (j:vX d o n):XT E 154 [.ptr t 0 0,.int .i64 1] L fun r L'=>r=.tup [.agg [.int .i64 o,.int .i64 n],.int .i64 0]/\L'=L:=by
 refine zU (R:=fun r L'=>r=.tup [.agg [.int .i64 o,.int .i64 n],.int .i64 0]/\Keep none' L L') ?_ ?_
 ·skip
  refine xt2 (fn:=Tryz.f154) (rs:=[.cellN 4 2,.tmp 5]) (c:=zlI) b fun ρ l h1=>?_
  unfold zlI
  simp only [h1,go_sem]
  refine zi (args':=[.int .i64 1]) rfl (Wl (E:=E.noPan) b) rfl ?_
  simp only [l,h1,go_sem]
  refine zh (z6m (E:=E.noPan) b (h.keep (Keep.app (k:=Blk.cells 2 [[IV.int .i64 0,IV.int .i64 0]]) Keep.refl:Keep none' L _) fun _ _ h=>h) j) ?_
  rintro r L1 ⟨rfl,rfl⟩
  simp only [Y6,Zk,ZJ,WH,go_sem]
  refine ⟨rfl,?_⟩
  exact kP
 ·rintro r L' ⟨rfl,m⟩
  exact ⟨m,_,rfl,rfl⟩
theorem zer (M:E.P=Tryz.prog) {t N n:Nat} {F:Nat->Prop} {d:KV} {o:Int} (h:ZL L t F N d) (hl:vX d o n) (hn:n<4503599627370496) (hN:d.length<=800000) (U:N+1000<=1099511627776) :
  XT E 155 [.ptr t 0 0,.int .i64 1,.agg [.int .i64 o,.int .i64 n],.int .i64 4] L fun r L'=>r=.tup [.agg [.int .i64 4,.int .i64 ((n+1:Nat):Int)],.int .i64 0]/\(∃F' N',N'<=N+1000/\ZL L' t F' N' (d.put [108,101,97,115,101,47,49] (strOf (Zt 4 (n+1))))/\Grown F F' L L')/\Keep F L L':=by
 refine xt4 (fn:=Tryz.f155) (rs:=[.cellN 8 2,.tmp 9]) (c:=zkv) M fun ρ Y h1 h2 h3=>?_
 unfold zkv
 simp only [h1,h2,go_sem]
 refine zi (args':=[.int .i64 1]) rfl (Wl (E:=E.noPan) M) rfl ?_
 simp only [Y,h1,h3,go_sem]
 obtain ⟨L1,m⟩:∃L1,L++[Blk.cells 2 [[IV.int .i64 o,IV.int .i64 n]]]++[Blk.cells 2 [[IV.int .i64 0,IV.int .i64 0]]]=L1:=⟨_,rfl⟩
 obtain ⟨O,p⟩:∃O,L.length=O:=⟨_,rfl⟩
 obtain ⟨l,j⟩:∃l,(L++[Blk.cells 2 [[IV.int .i64 o,IV.int .i64 n]]]).length=l:=⟨_,rfl⟩
 have af:l=O+1:=by rw [<-j,<-p];simp
 have b:Keep none' L L1:=by rw [<-m];exact kP
 have e6:L1[O]?=some (.cells 2 [[.int .i64 o,.int .i64 n]]):=by rw [<-m,<-p];simp []
 have e8:L1[l]?=some (.cells 2 [[.int .i64 0,.int .i64 0]]):=by rw [<-m,<-j];simp []
 have l6:=zg e6
 have l8:=zg e8
 have w:ZL L1 t F N d:=h.keep b fun _ _ h=>h
 rw [m,p,j]
 refine Zp (E:=E.noPan) (.agg [.int .i64 o,.int .i64 n]) rfl (fun L' ha=>z6m (by exact M) (w.keep (zS ha) fun _ _ h=>h) hl) ?_
 have f1:((n:Int)=4503599627370496)=False:=fO
 have w1:IntKind.i64.wrap ((n:Int)+1)=((n+1:Nat):Int):=wR
 have he:yx [0,0] [IV.int .i64 o,IV.int .i64 n] [IV.int .i64 o,IV.int .i64 n]=some true:=by simp [yx]
 simp only [Y,h1,h3,e6,f1,w1,he,go_sem]
 refine zh (zdT (E:=E.noPan) (o:=4) (n:=n+1) M (w.keep (Keep.app Keep.refl:Keep none' L1 _) fun _ _ h=>h) od od od hN U) ?_
 rintro r L2 ⟨rfl,⟨F',N',X,R,D⟩,q⟩
 obtain ⟨s,FS,sw,S,hS,I,rfl⟩:=R
 have g8:=q.get (Zu e8) fun hh=>by have:=h.lt.2.2 _ hh;omega
 have ae:=zg S
 have m8:=zg g8
 have A:L2[L1.length]?=some (.cells 2 [[.int .i64 4,.int .i64 ((n+1:Nat):Int)]]):=q.get (by simp) fun hh=>by have:=h.lt.2.2 _ hh;have:=b.1;omega
 have ag:=zg A
 have V:(t=l)=False:=eq_false (by have:=h.lt.1;omega)
 have ah:(l=t)=False:=eq_false (by have:=h.lt.1;omega)
 have B:(t=L1.length)=False:=eq_false (by have:=h.lt.1;have:=b.1;omega)
 simp only [Y,S,g8,m8,A,V,B,Y6,Zk,WH,ZJ,go_sem]
 have J:=h.lt
 have T:Grown F (fun u=>u=t\/FS u) L L2:=fun u v=>by
  rcases D u v with G | G
  ·exact .inl G
  ·right;have:=b.1;simp only [lla,llc,lln] at G;omega
 have j:¬FS l:=fun G=>by
  rcases D l (.inr G) with Q | Q
  ·have:=J.2.2 _ Q;omega
  ·have:=zf e8;simp only [lla,llc,lln] at Q;omega
 have Z:Keep F L L2:=((b.mono (F':=F) fun u _ h=>h.elim).trans ((Keep.app Keep.refl:Keep none' L1 (L1++[Blk.cells 2 [[IV.int .i64 4,IV.int .i64 ((n+1:Nat):Int)]]])).mono (F':=F) fun u _ h=>h.elim) fun u _ h=>h).trans q fun u _ h=>h
 have kM:Keep (fun u=>u=t\/u=l) L2 ((L2.set t (Blk.cells 2 [[IV.ptr s 0 0,IV.int IntKind.i64 (IntKind.i64.wrap (sw+1))]])).set l (Blk.cells 2 [[IV.int IntKind.i64 4,IV.int IntKind.i64 ((n+1:Nat):Int)]])):=Keep.set (Keep.set Keep.refl fun _=>.inl rfl) fun _=>.inr rfl
 refine ⟨rfl,⟨fun u=>u=t\/FS u,N',X,⟨s,FS,IntKind.i64.wrap (sw+1),?_,hS.keep kM ?_,I,rfl⟩,?_⟩,Z.trans kM ?_⟩
 ·rw [List.getElem?_set_ne od,List.getElem?_set_self (zf S)]
 ·rintro u v (rfl | rfl)
  ·exact I v
  ·exact j v
 ·intro u v
  have:=T u v
  simp only [lls]
  exact this
 ·rintro u v (rfl | rfl)
  ·exact J.2.1
  ·omega
theorem zc5 (p:E.P=Tryz.prog) {d m:Nat} {o b:Int} (v:L[d]?=some (vK m o b)) (A:L[m]?=some (.map [] 0)):XT E 19 [.ptr d 0 0] L fun r L'=>
  ∃t,r=.tup [.ptr t 0 0,.int .i64 0]/\(∃F',ZL L' t F' 0 []/\Grown (fun u=>u=d\/u=m) F' L L')/\Keep none' L L':=by
 refine xt1 (fn:=Tryz.f19) (rs:=[.tmp 2,.tmp 3]) (c:=q19) p fun ρ w=>?_
 unfold q19
 simp only [w,go_sem]
 refine zh (z9W (E:=E.noPan) p v A) ?_
 rintro r L1 ⟨s,rfl,⟨F',j,hG⟩,hs,q⟩
 simp only [go_sem]
 have l:Keep none' L1 (L1++[Blk.cells 2 [[IV.ptr s 0 0,IV.int .i64 0]]]):=Keep.app Keep.refl
 refine ⟨L1.length,rfl,⟨_,⟨s,F',0,by simp,j.keep l fun _ _ h=>h,fun h=>by have:=j.lt.2.2 _ h;omega,rfl⟩,?_⟩,q.trans l fun _ _ h=>h⟩
 rintro u (rfl | h)
 ·exact .inr ⟨q.1,by simp⟩
 ·rcases hG u h with h | h
  ·exact .inl h
  ·right;simp only [lla,llc,lln];omega
def q80 : XC :=(sO [oO 8 (.mov oz),oI 9 0] (.seq (sO [oM 13 0,oO 14 (.ex (.eqP false) [.t 13,oz]),oM 15 14,oG 16 15 false (.mov (.t 1)),oG 17 15 false (.ex (.eqP false) [.t 16,oz]),oO 18 (.pick (.t 15) (.c (.bool true)) (.t 17))] (cT 18 (sO [oO 8 (.mov oz),oI 9 1] .ret) .skip)) (sO [oM 20 0,oM 21 2,oC 22 154 [.t 20,.t 21],oM 19 22,oX 23 0 19,oX 24 1 19,oO 10 (.alloc [(.int .i64 0),(.int .i64 0)]),oU (.store 2 (.t 10) (.t 23)),oM 11 24] (.seq (sO [oM 25 11,oK 26 .neq 25 0] (cT 26 (sO [oM 27 11,oO 8 (.mov oz),oM 9 27] .ret) .skip)) (sO [oM 29 0,oM 30 2,oO 31 (.loadN 2 (.t 10)),oM 32 3,oC 33 155 [.t 29,.t 30,.t 31,.t 32],oM 28 33,oX 34 0 28,oX 35 1 28,oO 12 (.alloc [(.int .i64 0),(.int .i64 0)]),oU (.store 2 (.t 12) (.t 34)),oM 11 35] (.seq (sO [oM 36 11,oK 37 .eql 36 0] (cT 37 (.ops [oM 38 1,oF 39 1 12,oL 40 39,oC 41 156 [.t 38,.t 40],oM 11 41]) .skip)) (.seq (sO [oM 42 11,oK 43 .neq 42 0] (cT 43 (sO [oM 44 11,oO 8 (.mov oz),oM 9 44] .ret) .skip)) (sO [oM 45 0,oM 46 1,oM 47 2,oO 48 (.loadN 2 (.t 12)),oF 49 1 12,oL 50 49,oO 51 (.ex (.itof .f64) [.t 50]),oO 52 (.ex .cpx [.t 51,(.c (.raw (.float .f64 0)))]),oO 53 (.build [(.raw (.pointer none)),(.raw (.pointer none)),(.int .i64 0),(.int .i64 0),(.int .i64 0),(.raw (.complex .f64 0 0)),(.bool false)] [(0,(1,(.t 45))),(1,(1,(.t 46))),(2,(1,(.t 47))),(3,(2,(.t 48))),(5,(1,(.t 52))),(6,(1,(.c (.bool true))))]),oO 54 (.box (.t 53)),oM 8 54,oI 9 0] .ret))))))))
def q81 : XC :=(sO [oI 2 0] (sO [oM 3 0,oN 4 3,oF 5 3 4,oF 6 1 5,oL 7 6,oM 2 7] .ret))
def q82 : XC :=(sO [oI 2 0] (sO [oM 3 0,oN 4 3,oF 5 2 4,oL 6 5,oM 2 6] .ret))
def q83 : XC :=(sO [oV 2 (.bool false)] (sO [oM 3 0,oN 4 3,oF 5 6 4,oL 6 5,oM 2 6] .ret))
def q30 : XC :=(sO [oI 4 0] (.seq (sO [oM 6 0,oN 7 6,oF 8 6 7,oL 9 8,oO 10 (.un .not (.t 9))] (cT 10 (sO [oI 4 13] .ret) .skip)) (.seq (.drawE [oM 11 0,oN 12 11,oF 13 1 12,oL 14 13,oM 15 0,oN 16 15,oF 17 3 16,oF 18 1 17,oL 19 18,oM 20 1,oC 21 89 [.t 14,.t 19,.t 20],oM 5 21]) (sO [oM 22 0,oM 23 5,oK 24 .neq 23 5,oN 25 22,oF 26 6 25,oS 26 24] (sO [oM 27 5,oM 4 27] .ret)))))
def zkR : XC :=(sO [oO 2 (.mov (.c (.raw (.complex .f64 0 0)))),oI 3 0] (.seq (.block 0 (sO [oM 5 0,oN 6 5,oF 7 6 6,oL 8 7,oO 9 (.un .not (.t 8)),oM 4 9] (cT 4 (sO [oO 2 (.mov (.c (.raw (.complex .f64 0 0)))),oI 3 13] .ret) (sO [oM 11 0,oC 12 57 [.t 11],oK 13 .geq 12 4503599627370496,oM 10 13] (cT 10 (sO [oO 2 (.mov (.c (.raw (.complex .f64 0 0)))),oI 3 8] .ret) .skip))))) (sO [oM 14 0,oN 15 14,oF 16 5 15,oL 17 16,oO 18 (.bin .add (.t 17) (.c (.raw (.complex .f64 0 4607182418800017408)))),oN 19 14,oF 20 5 19,oS 20 18] (sO [oM 21 0,oN 22 21,oF 23 5 22,oL 24 23,oM 2 24,oI 3 0] .ret))))
def q57 : XC :=(sO [oI 2 0] (sO [oM 3 0,oN 4 3,oF 5 5 4,oL 6 5,oO 7 (.ex (.ru .im) [.t 6]),oO 8 (.ex (.ru (.toInt .i64)) [.t 7]),oM 2 8] .ret))
def Wu (t s n re im:Nat) (b:Bool):Blk:=.cells 7 [[.ptr t 0 0,.ptr s 0 0,.int .i64 1,.int .i64 4,.int .i64 n,.raw (.complex .f64 re im),.bool b]]
theorem zcv (d:E.P=Tryz.prog) {c t s n re im:Nat} {b:Bool} (hc:L[c]?=some (Wu t s n re im b)):XT E 81 [.ptr c 0 0] L fun r L'=>r=.int .i64 n/\L'=L:=by
 have j:=zg hc
 unfold Wu at hc
 refine xt1 (fn:=Tryz.f81) (rs:=[.tmp 2]) (c:=q81) d fun ρ h=>?_
 unfold q81
 simp only [h,hc,go_sem]
theorem zcg (d:E.P=Tryz.prog) {c t s n re im:Nat} {b:Bool} (hc:L[c]?=some (Wu t s n re im b)):XT E 82 [.ptr c 0 0] L fun r L'=>r=.int .i64 1/\L'=L:=by
 have j:=zg hc
 unfold Wu at hc
 refine xt1 (fn:=Tryz.f82) (rs:=[.tmp 2]) (c:=q82) d fun ρ h=>?_
 unfold q82
 simp only [h,hc,go_sem]
theorem z9V (d:E.P=Tryz.prog) {c t s n re im:Nat} {b:Bool} (hc:L[c]?=some (Wu t s n re im b)):XT E 83 [.ptr c 0 0] L fun r L'=>r=.bool b/\L'=L:=by
 have j:=zg hc
 unfold Wu at hc
 refine xt1 (fn:=Tryz.f83) (rs:=[.tmp 2]) (c:=q83) d fun ρ h=>?_
 unfold q83
 simp only [h,hc,go_sem]
theorem z7q (J:E.P=Tryz.prog) {t s NT NS n:Nat} {FT FS:Nat->Prop} {M d:KV} {o:Int} (hT:ZL L t FT NT M) (hl:vX M o n) (hS:zl L s FS NS n d) (b:∀u,FT u->¬FS u)
  (hn:n<4503599627370496) (hN:M.length<=800000) (Y:NT+1000<=1099511627776) (O:NS+300<=1099511627776) :
  XT E 80 [.ptr t 0 0,.ptr s 0 0,.int .i64 1,.int .i64 4] L fun r L'=>∃c,r=.tup [.ptr c 0 0,.int .i64 0]/\L.length<=c/\L'[c]?=some (Wu t s (n+1) (floatOfInt .f64 ((n+1:Nat):Int)) 0 true)/\
   (∃FT' FS' NT',NT'<=NT+1000/\ZL L' t FT' NT' (M.put [108,101,97,115,101,47,49] (strOf (Zt 4 (n+1))))/\zl L' s FS' (NS+300) ((n+1:Nat):Int) d/\(∀u,FT' u->¬FS' u)/\¬FT' c/\¬FS' c/\Grown FT FT' L L'/\Grown FS FS' L L')/\Keep (fun u=>FT u\/FS u) L L':=by
 refine xt4 (fn:=Tryz.f80) (rs:=[.tmp 8,.tmp 9]) (c:=q80) J fun ρ X h1 h2 h3=>?_
 unfold q80
 have ep:∀u:Nat,vI (.ptr u 0 0) (.raw (.pointer none))=some false:=fun _=>rfl
 simp only [X,h1,h2,ep,go_sem]
 refine zh (zdW (E:=E.noPan) J hT hl) ?_
 rintro r L' ⟨rfl,rfl⟩
 have es:(L'++[Blk.cells 2 [[IV.int .i64 0,IV.int .i64 0]]]).set L'.length (Blk.cells 2 [[IV.int .i64 o,IV.int .i64 n]])=L'++[Blk.cells 2 [[IV.int .i64 o,IV.int .i64 n]]]:=by
  rw [List.set_append_right _ _ (Nat.le_refl _),Nat.sub_self];rfl
 simp only [X,h2,h3,es,go_sem]
 have k1:Keep none' L' (L'++[Blk.cells 2 [[IV.int .i64 o,IV.int .i64 n]]]):=Keep.app Keep.refl
 refine zh (zer (E:=E.noPan) J (hT.keep k1 fun _ _ h=>h) hl hn hN Y) ?_
 rintro r L2 ⟨rfl,⟨FT',NT',R,D,q⟩,Q⟩
 have T:(L2++[Blk.cells 2 [[IV.int .i64 0,IV.int .i64 0]]]).set L2.length (Blk.cells 2 [[IV.int .i64 4,IV.int .i64 ((n+1:Nat):Int)]])=L2++[Blk.cells 2 [[IV.int .i64 4,IV.int .i64 ((n+1:Nat):Int)]]]:=by
  rw [List.set_append_right _ _ (Nat.le_refl _),Nat.sub_self];rfl
 simp only [h1,T,go_sem]
 have I:Keep FT L' L2:=(k1.mono (F':=FT) fun _ _ h=>h.elim).trans Q fun _ _ h=>h
 have k3:Keep FT L' (L2++[Blk.cells 2 [[IV.int .i64 4,IV.int .i64 ((n+1:Nat):Int)]]]):=Keep.app I
 refine zh (zc2 (E:=E.noPan) J (hS.keep k3 fun u h1 h2=>b u h2 h1) od od O) ?_
 rintro r L4 ⟨rfl,⟨FS',p,B⟩,j⟩
 have w:=hS.lt.2.2
 have af:=hT.lt.2.2
 have U:(L2++[Blk.cells 2 [[IV.int .i64 4,IV.int .i64 ((n+1:Nat):Int)]]])[L2.length]?=some (.cells 2 [[IV.int .i64 4,IV.int .i64 ((n+1:Nat):Int)]]):=by simp
 have A:=j.get U fun h=>by have:=w _ h;have:=I.1;omega
 have ag:=zg A
 simp only [X,h1,h2,A,go_sem]
 have m:=D.lt.2.2
 have Z:Grown FT FT' L' L4:=fun u l=>by
  have e1:=m u l
  have e2:=I.1
  have e3:=j.1
  rcases q u l with h | h
  ·exact .inl h
  ·right;simp only [lla,llc,lln] at h e3;omega
 have ae:Grown FS FS' L' L4:=fun u l=>by
  have e1:=p.lt.2.2 u l
  have e2:=I.1
  rcases B u l with h | h
  ·exact .inl h
  ·right;simp only [lla,llc,lln] at h;omega
 have S:∀u,FT' u->¬FS' u:=fun u h1 h2=>by
  have e1:=m u h1
  rcases B u h2 with h | h
  ·rcases q u h1 with v | v
   ·exact b u v h
   ·have:=w u h;simp only [lla,llc,lln] at v;omega
  ·simp only [lla,llc,lln] at h;omega
 have G:ZL L4 t FT' NT' _:=(D.keep (Keep.app (k:=Blk.cells 2 [[IV.int .i64 4,IV.int .i64 ((n+1:Nat):Int)]]) Keep.refl:Keep none' L2 _) fun _ _ h=>h).keep j fun u h1 h2=>by
  rcases q u h1 with v | v
  ·exact b u v h2
  ·have:=w u h2;simp only [lla,llc,lln] at v;omega
 have k4:Keep (fun u=>FT u\/FS u) L' L4:=(k3.mono (F':=fun u=>FT u\/FS u) fun _ _ h=>.inl h).trans j fun u _ h=>.inr h
 have V:Keep none' L4 (L4++[Wu t s (n+1) (floatOfInt .f64 ((n+1:Nat):Int)) 0 true]):=Keep.app Keep.refl
 refine ⟨L4.length,rfl,k4.1,by simp [Wu],⟨FT',FS',NT',R,G.keep V fun _ _ h=>h,p.keep V fun _ _ h=>h,S,fun h=>?_,fun h=>?_,fun u l=>?_,fun u l=>?_⟩,k4.trans V fun _ _ h=>h.elim⟩
 ·have:=G.lt.2.2 _ h;omega
 ·have:=p.lt.2.2 _ h;omega
 ·rcases Z u l with h | h
  ·exact .inl h
  ·right;simp only [lla,llc,lln];omega
 ·rcases ae u l with h | h
  ·exact .inl h
  ·right;simp only [lla,llc,lln];omega
theorem z0w (q:E.P=Tryz.prog) {c t s N ob n re im:Nat} {F:Nat->Prop} {d:KV} {l:List OpV} (hc:L[c]?=some (Wu t s n re im true)) (B:zl L s F N n d) (m:¬F c) (b:L[ob]?=some (.cells 3 (zB l))) (D:¬F ob) (p:l≠[]) (w:l.length<=100000) (A:∀o∈l,o.fit) (hg:gok d l) (I:(yI l).length<=1048512)
  (G:d.length+l.length<=900000) (j:N+(yI l).length+300<=1099511627776) :
  XT E 30 [.ptr c 0 0,.sl ob 0 l.length l.length] L fun r L'=>r=.int .i64 0/\(∃F',zl L' s F' (N+(yI l).length+300) n (d.puts l)/\Grown F F' L L')/\Keep F L L':=by
 have M:=zg hc
 have J:=hc
 unfold Wu at hc
 refine xt2 (fn:=Tryz.f30) (rs:=[.tmp 4]) (c:=q30) q fun ρ u h1=>?_
 unfold q30
 simp only [u,h1,hc,go_sem]
 refine zh (z3R (E:=E.noPan) q B b D p w A hg I G j) ?_
 rintro r L1 ⟨rfl,⟨F',h,hG⟩,v⟩
 have g:=v.get hc m
 have lg:=zg g
 simp only [u,g,go_sem]
 have e:L1.set c (Blk.cells 7 [[.ptr t 0 0,.ptr s 0 0,.int .i64 1,.int .i64 4,.int .i64 n,.raw (.complex .f64 re im),.bool true]])=L1:=vg g
 rw [e]
 exact ⟨⟨F',h,hG⟩,v⟩
def q22 : XC :=(sO [oO 6 (.mov oz),oI 7 0] (.seq (sO [oM 8 0,oO 9 (.ex (.eqP false) [.t 8,oz]),oM 10 9,oG 11 10 false (.mov (.t 1)),oG 12 10 false (.bin .lss (.t 11) (oi 1)),oO 13 (.pick (.t 10) (.c (.bool true)) (.t 12)),oM 14 13,oG 15 14 false (.mov (.t 1)),oG 16 14 false (.bin .gtr (.t 15) (oi 16)),oO 17 (.pick (.t 14) (.c (.bool true)) (.t 16)),oM 18 17,oG 19 18 false (.mov (.t 2)),oG 20 18 false (.bin .lss (.t 19) (oi 0)),oO 21 (.pick (.t 18) (.c (.bool true)) (.t 20)),oM 22 21,oG 23 22 false (.mov (.t 2)),oG 24 22 false (.mov (.t 1)),oG 25 22 false (.bin .geq (.t 23) (.t 24)),oO 26 (.pick (.t 22) (.c (.bool true)) (.t 25))] (cT 26 (sO [oO 6 (.mov oz),oI 7 1] .ret) .skip)) (sO [oM 27 0,oM 28 1,oM 29 2,oO 30 (.build [(.raw (.pointer none)),(.int .i64 0),(.int .i64 0)] [(0,(1,(.t 27))),(1,(1,(.t 28))),(2,(1,(.t 29)))]),oO 31 (.box (.t 30)),oM 6 31,oI 7 0] .ret)))
def q24 : XC :=(sO [oI 4 0] (.seq (.block 0 (.seq (.drawE [oM 6 1,oO 7 (.ex (.eqP false) [.t 6,oz]),oM 8 7,oG 9 8 false (.mov (.t 1)),oG 10 8 false (.pcall (.f 82) [.t 9]),oG 11 8 false (.mov (.t 0)),oG 12 8 false (.nilck (.t 11)),oG 13 8 false (.fldA 2 (.t 12)),oG 14 8 false (.load1 (.t 13)),oG 15 8 false (.bin .neq (.t 10) (.t 14)),oO 16 (.pick (.t 8) (.c (.bool true)) (.t 15)),oM 5 16]) (cT 5 (sO [oI 4 1] .ret) (sO [oM 18 1,oC 19 83 [.t 18],oO 20 (.un .not (.t 19)),oM 17 20] (cT 17 (sO [oI 4 13] .ret) .skip))))) (sO [oI 4 0] .ret)))
def q25 : XC :=(sO [oV 4 (.bool false)] (sO [oM 5 1,oK 6 .geq 5 0,oM 7 6,oG 8 7 true (.mov (.t 1)),oG 9 7 true (.mov (.t 0)),oG 10 7 true (.nilck (.t 9)),oG 11 7 true (.fldA 1 (.t 10)),oG 12 7 true (.load1 (.t 11)),oG 13 7 true (.bin .lss (.t 8) (.t 12)),oO 14 (.pick (.t 7) (.t 13) (.c (.bool false))),oM 4 14] .ret))
def q49 : XC :=(sO [oI 4 0] (sO [oM 11 0,oN 12 11,oF 13 0 12,oL 14 13,oM 15 1,oC 16 122 [.t 14,.t 15],oM 10 16,oX 17 0 10,oX 18 1 10,oM 5 17,oM 6 18] (sO [oM 20 5,oO 21 (.ex (.strB 5) [.t 20]),oC 22 77 [.t 21],oM 19 22,oX 23 0 19,oX 24 1 19,oX 25 2 19,oM 7 23,oM 8 24,oM 9 25] (sO [oM 26 7,oM 4 26] .ret))))
def q11 : XC :=(sO [oI 4 0] (.seq (sO [oM 5 0,oM 6 1,oC 7 25 [.t 5,.t 6],oO 8 (.un .not (.t 7))] (cT 8 (sO [oI 4 0] .ret) .skip)) (sO [oM 9 0,oM 10 1,oC 11 28 [.t 10],oC 12 49 [.t 9,.t 11],oM 4 12] .ret)))
def q26 : XC :=(sO [oO 2 (.mov oz)] (sO [oM 3 0,oO 4 (.ex .mmake []),oO 5 (.build [(.raw (.pointer none)),.nsl,(.raw (.map none)),(.int .i64 0),(.bool false)] [(0,(1,(.t 3))),(2,(1,(.t 4)))]),oO 6 (.box (.t 5)),oM 2 6] .ret))
def q41 : XC :=(.drawR [(oM 6 0,([],false)),(oM 7 0,([],false)),(oN 8 7,([],false)),(oF 9 1 8,([],false)),(oL 10 9,([],true)),(oM 11 1,([],false)),(oM 12 2,([],false)),(oO 13 (.ex .bStr [.t 12]),([],false)),(oO 14 (.build [(.str []),(.str []),(.bool false)] [(0,(1,(.t 11))),(1,(1,(.t 13)))]),([],false)),(oO 15 (.bslice 3 [(.str []),(.str []),(.bool false)] 1 [(0,(.t 14))]),([4],false)),(oO 16 (.append 3 40 (.t 10) (.t 15)),([],false)),(oN 17 6,([],false)),(oF 18 1 17,([],false)),(oS 18 16,([],false))])
def exB (s:Nat):Blk:=.cells 3 [[.ptr s 0 0,.int .i64 3,.int .i64 1]]
theorem zfo (b:E.P=Tryz.prog) {s:Nat}:XT E 22 [.ptr s 0 0,.int .i64 3,.int .i64 1] L fun r L'=>r=.tup [.ptr L.length 0 0,.int .i64 0]/\L'=L++[exB s]:=by
 refine xt3 (fn:=Tryz.f22) (rs:=[.tmp 6,.tmp 7]) (c:=q22) b fun ρ d h1 h2=>?_
 unfold q22
 have h:∀u:Nat,vI (.ptr u 0 0) (.raw (.pointer none))=some false:=fun _=>rfl
 simp only [d,h1,h2,h,go_sem]
 rfl
theorem J9 (h:E.P=Tryz.prog) {x s k:Nat} (b:L[x]?=some (exB s)) (p:k<3):XT E 25 [.ptr x 0 0,.int .i64 k] L fun r L'=>r=.bool true/\L'=L:=by
 have m:=zg b
 unfold exB at b
 have j:((0:Int)<=(k:Int))=True:=tO
 have d:((k:Int)<3)=True:=tO
 refine xt2 (fn:=Tryz.f25) (rs:=[.tmp 4]) (c:=q25) h fun ρ l h1=>?_
 unfold q25
 simp only [l,h1,b,j,d,go_sem]
theorem z9e (d:E.P=Tryz.prog) {x s c t j n re im:Nat} (b:L[x]?=some (exB s)) (hc:L[c]?=some (Wu t j n re im true)):XT E 24 [.ptr x 0 0,.ptr c 0 0] L fun r L'=>r=.int .i64 0/\L'=L:=by
 have p:=zg b
 have h:=b
 unfold exB at b
 refine xt2 (fn:=Tryz.f24) (rs:=[.tmp 4]) (c:=q24) d fun ρ l h1=>?_
 unfold q24
 have m:∀u:Nat,vI (.ptr u 0 0) (.raw (.pointer none))=some false:=fun _=>rfl
 simp only [h1,m,go_sem]
 refine Zp (E:=E.noPan) (.int .i64 1) rfl (fun L' ha=>zcg (by exact d) (by rw [ha c (zf hc)];exact hc)) ?_
 simp only [l,h1,b,go_sem]
 refine zh (z9V (E:=E.noPan) d hc) ?_
 rintro r L' ⟨rfl,rfl⟩
 simp only [go_sem]
def z8E (d:KV) (k:List UInt8) (n:Nat):Prop:=((d.get k=none/\n=0)\/d.get k=some (strOf (zL n)))/\n<=4503599627370496
theorem zen {n:Nat} (b:n<=4503599627370496):(zL n).length<=8:=by
 have:=zM n
 have:=Zj (n:=n) (k:=7) od
 omega
theorem z5Q (h:E.P=Tryz.prog) {x s N n:Nat} {F:Nat->Prop} {b:Int} {d:KV} {k:List UInt8} (m:L[x]?=some (exB s)) (u:zl L s F N b d) (j:z8E d k n):XT E 49 [.ptr x 0 0,.str k] L fun r L'=>r=.int .i64 n/\L'=L:=by
 refine zU (R:=fun r L'=>r=.int .i64 n/\Keep none' L L') ?_ ?_
 ·skip
  have B:=zg m
  unfold exB at m
  refine xt2 (fn:=Tryz.f49) (rs:=[.tmp 4]) (c:=q49) h fun ρ w h1=>?_
  unfold q49
  simp only [w,h1,m,go_sem]
  refine zh (z2G (E:=E.noPan) h u _) ?_
  rintro r L1 ⟨rfl,rfl⟩
  have p:=yD (n:=n) (by have:=j.2;omega)
  have q:=zen j.2
  obtain ⟨⟨hg,rfl⟩ | hg,l⟩:=j
  ·unfold zbb
   rw [hg]
   have e1:(none:Option (List UInt8)).getD []=[]:=rfl
   simp only [e1,lln,go_sem]
   refine Yr (args':=[.isl []]) ?_ (jR (E:=E.noPan) h) rfl rfl ?_
   ·exact WB (s:=[]) rfl
   simp only [go_sem]
   exact kP
  ·unfold zbb
   rw [hg]
   have e1:(some (strOf (zL n))).getD []=strOf (zL n):=rfl
   have v:((strOf (zL n)).length<=9223372036854775807)=True:=eq_true (by rw [p.len];omega)
   simp only [e1,v,go_sem]
   refine Yr (args':=[.isl (zL n)]) ?_ (Jz (E:=E.noPan) h l) rfl rfl ?_
   ·rw [WB rfl,p.rows]
   simp only [go_sem]
   exact kP
 ·rintro r L' ⟨rfl,A⟩
  exact ⟨A,_,rfl,rfl⟩
def ze5 (k:Nat):List UInt8:=[109,47,48,(48+k).toUInt8]
theorem z3F (b:E.P=Tryz.prog) {k:Nat} (d:k<3):zD E 28 [.int .i64 k] (.str (ze5 k)):=by
 match k,d with
 | 0,_=>exact z1X b
 | 1,_=>exact z2h b
 | 2,_=>exact z2k b
theorem zaJ (h:E.P=Tryz.prog) {x s N n k:Nat} {F:Nat->Prop} {b:Int} {d:KV} (m:L[x]?=some (exB s)) (q:zl L s F N b d) (l:k<3) (p:z8E d (ze5 k) n):XT E 11 [.ptr x 0 0,.int .i64 k] L fun r L'=>r=.int .i64 n/\L'=L:=by
 refine xt2 (fn:=Tryz.f11) (rs:=[.tmp 4]) (c:=q11) h fun ρ j h1=>?_
 unfold q11
 simp only [j,h1,go_sem]
 refine zh (J9 (E:=E.noPan) h m l) ?_
 rintro r L' ⟨rfl,rfl⟩
 simp only [j,h1,go_sem]
 refine zi (args':=[.int .i64 k]) rfl (z3F (E:=E.noPan) h l) rfl ?_
 simp only [go_sem]
 refine zh (z5Q (E:=E.noPan) h m q p) ?_
 rintro r L' ⟨rfl,rfl⟩
 simp only [go_sem]
def zit (L:List Blk) (v:IV) (l:List OpV):Prop:=(v=.nsl/\l=[])\/∃g,v=.sl g 0 l.length l.length/\L[g]?=some (.cells 3 (zB l))/\l≠[]
def ZF (L:List Blk) (b x:Nat) (l:List OpV) (sz:Int) (F:Nat->Prop):Prop:=∃v m,L[b]?=some (.cells 5 [[.ptr x 0 0,v,.mp m,.int .i64 sz,.bool false]])/\L[m]?=some (.map [] 0)/\zit L v l/\F=fun u=>u=b\/u=m\/∃n,v=.sl u 0 n n
theorem zbJ (d:E.P=Tryz.prog) {x:Nat}:XT E 26 [.ptr x 0 0] L fun r L'=>∃b,r=.ptr b 0 0/\(∃F,ZF L' b x [] 0 F/\∀u,F u->L.length<=u/\u<L'.length)/\Keep none' L L':=by
 refine xt1 (fn:=Tryz.f26) (rs:=[.tmp 2]) (c:=q26) d fun ρ j=>?_
 unfold q26
 simp only [j,go_sem]
 refine ⟨_,rfl,⟨_,⟨.nsl,L.length,by simp,by simp,.inl ⟨rfl,rfl⟩,rfl⟩,?_⟩,kP⟩
 rintro u (rfl | rfl | ⟨n,h⟩)
 ·simp
 ·simp
 ·cases h
theorem z4I (hP:E.P=Tryz.prog) {b x:Nat} {l:List OpV} {sz:Int} {F:Nat->Prop} {k s:List UInt8} {w:IV} (h:ZF L b x l sz F) (hw:∀M,Keep none' L M->(yG M w).bind (zJ byteOf)=some s) (hN:l.length<=100000) :
  XT E 41 [.ptr b 0 0,.str k,w] L fun r L'=>r=.tup []/\(∃F',ZF L' b x (l++[⟨k,s,false⟩]) sz F'/\Grown F F' L L')/\Keep F L L':=by
 obtain ⟨v,m,A,p,hv,rfl⟩:=h
 have S:=zg A
 have J:=hw L Keep.refl
 refine xt3 (fn:=Tryz.f41) (rs:=[]) (c:=q41) hP fun ρ h0 h1 h2=>?_
 unfold q41
 simp only [h0,h1,h2,A,S,J,go_sem]
 have T:∀q:List OpV,(zB q).length=q.length:=fun q=>by simp [zB]
 have B:yz 3 [[IV.str k,IV.str s,IV.bool false]]:=fun r V=>by simp at V;subst V;exact ⟨rfl,rfl⟩
 have D:rowsOf (L++[Blk.cells 3 [[IV.str k,IV.str s,IV.bool false]]]) (.sl L.length 0 1 1)=some [[IV.str k,IV.str s,IV.bool false]]:=Zd (sz:=3) (by simp) rfl
 have I:¬b=m:=fun h=>by subst h;rw [A] at p;simp at p
 have Y:=zf A
 have G:=zf p
 rcases hv with ⟨rfl,rfl⟩ | ⟨g,rfl,hg,af⟩
 ·refine Yo D B (by simp) (by simp) ?_
  simp only [A,S,go_sem]
  obtain ⟨j,d⟩:∃j,(L++[Blk.cells 3 [[IV.str k,IV.str s,IV.bool false]]]).length=j:=⟨_,rfl⟩
  have R:j=L.length+1:=by rw [<-d];simp
  rw [d]
  refine ⟨⟨_,⟨.sl j 0 1 1,m,?_,?_,.inr ⟨j,rfl,?_,by simp⟩,rfl⟩,?_⟩,?_⟩
  ·rw [List.getElem?_set_self (by simp;omega)]
  ·rw [List.getElem?_set_ne I,List.append_assoc,List.getElem?_append_left G];exact p
  ·rw [List.getElem?_set_ne od,<-d,List.getElem?_append_right (Nat.le_refl _),Nat.sub_self];rfl
  ·rintro u (rfl | rfl | ⟨n,O⟩)
   ·exact .inl (.inl rfl)
   ·exact .inl (.inr (.inl rfl))
   ·cases O;right;simp;omega
  ·exact Keep.set (Keep.app (Keep.app Keep.refl)) fun _=>.inl rfl
 ·have lg:=zg hg
  have ae:=zf hg
  have X:=zo A hg (by simp)
  have Z:(g=b)=False:=eq_false fun h=>of_eq_false X h.symm
  have Q:¬g=m:=fun h=>by subst h;rw [hg] at p;simp at p
  refine yh (Zz hg) (T l) D B (by simp) (by simp;omega) ?_
  simp only [A,S,Z,go_sem]
  obtain ⟨j,d⟩:∃j,(L++[Blk.cells 3 [[IV.str k,IV.str s,IV.bool false]]]).length=j:=⟨_,rfl⟩
  have R:j=L.length+1:=by rw [<-d];simp
  rw [d]
  have U:(l++[(⟨k,s,false⟩:OpV)]).length=l.length+1:=by simp
  refine ⟨⟨_,⟨.sl j 0 (l.length+1) (l.length+1),m,?_,?_,.inr ⟨j,by rw [U],?_,by simp⟩,rfl⟩,?_⟩,?_⟩
  ·rw [List.getElem?_set_self (by simp;omega)]
  ·rw [List.getElem?_set_ne I,List.getElem?_append_left (by simp;omega),List.getElem?_set_ne Q,List.getElem?_append_left G];exact p
  ·rw [List.getElem?_set_ne od,List.getElem?_append_right (by simp;omega)]
   have e0:j - ((L++[Blk.cells 3 [[IV.str k,IV.str s,IV.bool false]]]).set g Blk.dead).length=0:=by rw [lls,d];omega
   rw [e0]
   simp [zB,OpV.row]
  ·rintro u (rfl | rfl | ⟨n,O⟩)
   ·exact .inl (.inl rfl)
   ·exact .inl (.inr (.inl rfl))
   ·cases O;right;simp;omega
  ·exact Keep.set (Keep.app (Keep.set (Keep.app Keep.refl) fun _=>.inr (.inr ⟨_,rfl⟩))) fun _=>.inl rfl
theorem ZF.lt {b x:Nat} {l:List OpV} {sz:Int} {F:Nat->Prop} (h:ZF L b x l sz F):b<L.length/\F b/\∀u,F u->u<L.length:=by
 obtain ⟨v,m,j,p,q,rfl⟩:=h
 refine ⟨zf j,.inl rfl,?_⟩
 rintro u (rfl | rfl | ⟨n,d⟩)
 ·exact zf j
 ·exact zf p
 ·rcases q with ⟨rfl,_⟩ | ⟨g,rfl,hg,_⟩
  ·cases d
  ·cases d;exact zf hg
theorem ZF.keep {b x:Nat} {l:List OpV} {sz:Int} {F G:Nat->Prop} {L':List Blk} (h:ZF L b x l sz F) (p:Keep G L L') (d:∀u,F u->¬G u):ZF L' b x l sz F:=by
 obtain ⟨v,m,s,r,j,rfl⟩:=h
 refine ⟨v,m,p.get s (d _ (.inl rfl)),p.get r (d _ (.inr (.inl rfl))),?_,rfl⟩
 rcases j with j | ⟨g,rfl,hg,q⟩
 ·exact .inl j
 ·exact .inr ⟨g,rfl,p.get hg (d _ (.inr (.inr ⟨_,rfl⟩))),q⟩
def q7 : XC :=(sO [oI 10 0] (.seq (sO [oM 15 0,oM 16 1,oC 17 24 [.t 15,.t 16],oM 11 17] (sO [oM 18 11,oK 19 .neq 18 0] (cT 19 (sO [oM 20 11,oM 10 20] .ret) .skip))) (.seq (.block 0 (sO [oM 22 0,oM 23 2,oC 24 25 [.t 22,.t 23],oO 25 (.un .not (.t 24)),oM 21 25] (cT 21 (sO [oI 10 1] .ret) (sO [oM 27 3,oM 28 0,oM 29 2,oC 30 11 [.t 28,.t 29],oK 31 .add 30 1,oB 32 .neq 27 31,oM 26 32] (cT 26 (sO [oI 10 14] .ret) .skip))))) (sO [oM 33 0,oC 34 26 [.t 33],oM 12 34] (sO [oM 35 12,oM 36 2,oC 37 28 [.t 36],oM 38 3,oC 39 27 [.t 35,.t 37,.t 38]] (.seq (sO [oM 40 4,oY 41 40,oI 42 0] (.block 1 (.loop (sO [oB 43 .lss 42 41] (.seq (cT 43 .skip (.exit 1)) (.seq (.block 2 (sO [oO 44 (.idxS 7 (.t 40) (.t 42)),oO 45 (.loadN 7 (.t 44)),oO 14 (.alloc [(.int .i64 0),(.str []),(.str []),(.str []),(.str []),(.str []),(.int .i64 0)]),oU (.store 7 (.t 14) (.t 45))] (.drawE [oM 46 12,oN 47 46,oF 48 3 47,oL 49 48,oM 50 12,oO 51 (.loadN 7 (.t 14)),oQ 52 29 [.t 50,.t 51],oB 53 .add 49 52,oN 54 46,oF 55 3 54,oS 55 53]))) (.ops [oK 56 .add 42 1,oM 42 56]))))))) (.seq (sO [oM 57 12,oN 58 57,oF 59 4 58,oL 60 59,oM 61 60,oG 62 61 false (.mov (.t 12)),oG 63 61 false (.nilck (.t 62)),oG 64 61 false (.fldA 3 (.t 63)),oG 65 61 false (.load1 (.t 64)),oG 66 61 false (.bin .gtr (.t 65) (oi 65000)),oO 67 (.pick (.t 61) (.c (.bool true)) (.t 66))] (cT 67 (sO [oI 10 2] .ret) .skip)) (sO [oM 68 1,oM 69 12,oN 70 69,oF 71 1 70,oL 72 71,oC 73 30 [.t 68,.t 72],oM 10 73] .ret))))))))
theorem zl.mono {s N N':Nat} {F:Nat->Prop} {b:Int} {d:KV} (h:zl L s F N b d) (l:N<=N'):zl L s F N' b d:=by
 obtain ⟨lg,m,FL,FK,keys,sz,j,h1,h2,p⟩:=h
 exact ⟨lg,m,FL,FK,keys,sz,j,h1,h2.mono l,p⟩
def zjx : XC :=(.ops [oM 8 15])
def ziP : XC :=(.block 1 (.seq (sO [oM 16 8,oL 17 3,oB 18 .eql 16 17] (cT 18 (sO [oL 19 6,oS 4 19,oU (.store 1 (.t 5) (.c (.bool true)))] .ret) .skip)) (.ops [oL 20 6,oK 21 .add 20 1,oS 6 21])))
def q32 : XC :=(sO [oO 3 (.box (.t 1)),oO 4 (.alloc [(.int .i64 0)]),oO 5 (.alloc [(.bool false)])] (sO [oO 6 (.alloc [(.int .i64 0)]),oU (.store 1 (.t 6) (oi 0))] (.seq (sO [oM 9 0,oN 10 9,oF 11 0 10,oL 12 11,oO 13 (.call (.f 91) [.t 12,(.c (.str [110,47])),(.c (.str [110,48]))])] (.block 0 (.rngF (.t 13) 23 [14,15] zjx ziP))) (sO [oL 22 6,oS 4 22,oU (.store 1 (.t 5) (.c (.bool false)))] .ret)))) /- "tiller/exec.keyEvents" params { toList := [3] } results { toList := [Go.ResultVar.tmp 2] } -/
def jK (ps:KV) (name:List UInt8):Nat:=ps.findIdx fun p=>decide (p.2=name)
def zn7 (yb t3 t4 t5 t6:Nat) (lp:Blk) (name:List UInt8) (ps:KV) (i:Nat) (G:Nat->Prop) (L1:List Blk):Prop:=L1[yb]?=some lp/\L1[t3]?=some (.cells 1 [[.str name]])/\L1[t4]?=some (.cells 1 [[.int .i64 0]])/\L1[t5]?=some (.cells 1 [[.bool false]])/\L1[t6]?=some (.cells 1 [[.int .i64 i]])/\
 (∀(j:Nat) (p:List UInt8 × List UInt8),j<i->ps[j]?=some p->p.2≠name)/\G=fun t=>t=yb\/t=t3\/t=t4\/t=t5\/t=t6
def ziQ (L0:List Blk) (yb t3 t4 t5 t6:Nat) (r0:Loop) (l:List IV) (name:List UInt8) (ps:KV) (L1:List Blk):Prop:=∃i:Nat,i<ps.length/\jK ps name=i/\L1[yb]?=some (.lp { r0 with state:=.done,pending:=some .ret } l)/\L1[t4]?=some (.cells 1 [[.int .i64 i]])/\L1[t5]?=some (.cells 1 [[.bool true]])/\
 Keep (fun t=>t=yb\/t=t3\/t=t4\/t=t5\/t=t6) L0 L1
theorem zbU {ps:KV} {name:List UInt8} {i:Nat} {p:List UInt8 × List UInt8} (b:ps[i]?=some p) (h:p.2=name) (l:∀(j:Nat) (q:List UInt8 × List UInt8),j<i->ps[j]?=some q->q.2≠name):jK ps name=i:=by
 have hi:=zf b
 unfold jK
 rw [List.findIdx_eq hi]
 rw [List.getElem?_eq_getElem hi] at b
 simp only [sij] at b
 refine ⟨by rw [b];exact decide_eq_true h,fun j d=>?_⟩
 have:=l j _ d (List.getElem?_eq_getElem od)
 exact decide_eq_false this
theorem zbh {ps:KV} {name:List UInt8} (h:∀(j:Nat) (q:List UInt8 × List UInt8),j<ps.length->ps[j]?=some q->q.2≠name):jK ps name=ps.length:=by
 unfold jK
 rw [List.findIdx_eq_length]
 intro q d
 obtain ⟨j,b,rfl⟩:=List.getElem_of_mem d
 exact decide_eq_false (h j _ b (List.getElem?_eq_getElem b))
theorem z7O (hP:E.P=Tryz.prog) {x s N:Nat} {F:Nat->Prop} {Q:Int} {d:KV} {name:List UInt8} (hx:L[x]?=some (exB s)) (h:zl L s F N Q d) (hN:d.length<=900000) :
  XT E 32 [.ptr x 0 0,.str name] L fun r L'=>r=.tup [.int .i64 (jK (d.scan [110,47] [110,48]) name),.bool (decide (jK (d.scan [110,47] [110,48]) name<(d.scan [110,47] [110,48]).length))]/\Keep none' L L':=by
 have lx:=zg hx
 unfold exB at hx
 refine xt2 (fn:=Tryz.f32) (rs:=[.cell1 4,.cell1 5]) (c:=q32) hP fun ρ h0 h1=>?_
 unfold q32
 simp (maxDischargeDepth:=12) only [h0,h1,hx,lx,go_sem]
 refine zh (zaX (E:=E.noPan) hP) ?_
 rintro r L1 ⟨rfl,rfl⟩
 simp (maxDischargeDepth:=12) only [go_sem]
 obtain ⟨u,e3⟩:∃u,L.length=u:=⟨_,rfl⟩
 obtain ⟨A,e4⟩:∃A,(L++[Blk.cells 1 [[IV.str name]]]).length=A:=⟨_,rfl⟩
 obtain ⟨w,e5⟩:∃w,(L++[Blk.cells 1 [[IV.str name]]]++[Blk.cells 1 [[IV.int .i64 0]]]).length=w:=⟨_,rfl⟩
 obtain ⟨R,e6⟩:∃R,(L++[Blk.cells 1 [[IV.str name]]]++[Blk.cells 1 [[IV.int .i64 0]]]++[Blk.cells 1 [[IV.bool false]]]).length=R:=⟨_,rfl⟩
 obtain ⟨B,eB⟩:∃B,(L++[Blk.cells 1 [[IV.str name]]]++[Blk.cells 1 [[IV.int .i64 0]]]++[Blk.cells 1 [[IV.bool false]]]++[Blk.cells 1 [[IV.int .i64 0]]]).length=B:=⟨_,rfl⟩
 have n4:A=u+1:=by rw [<-e4,<-e3];simp
 have n5:w=u+2:=by rw [<-e5,<-e3];simp
 have n6:R=u+3:=by rw [<-e6,<-e3];simp
 have nB:B=u+4:=by rw [<-eB,<-e3];simp
 rw [e3,e4,e5,e6,eB]
 obtain ⟨M,eM⟩:∃M,(L++[Blk.cells 1 [[IV.str name]]]++[Blk.cells 1 [[IV.int .i64 0]]]++[Blk.cells 1 [[IV.bool false]]]++[Blk.cells 1 [[IV.int .i64 0]]]++[Blk.cells 1 [[IV.ptr s 0 0]],Blk.cells 1 [[IV.str [110,47]]],Blk.cells 1 [[IV.str [110,48]]]])=M:=⟨_,rfl⟩
 have kM:Keep none' L M:=by
  rw [<-eM]
  refine ⟨by simp,fun t ht _=>?_⟩
  simp only [List.append_assoc]
  rw [List.getElem?_append_left ht]
 have lM:M.length=u+7:=by rw [<-eM,<-e3];simp
 have gq:∀k,M[u+k]?=[Blk.cells 1 [[IV.str name]],Blk.cells 1 [[IV.int .i64 0]],Blk.cells 1 [[IV.bool false]],Blk.cells 1 [[IV.int .i64 0]],Blk.cells 1 [[IV.ptr s 0 0]],Blk.cells 1 [[IV.str [110,47]]],Blk.cells 1 [[IV.str [110,48]]]][k]?:=fun k=>by
  rw [<-eM,<-e3]
  simp only [List.append_assoc]
  rw [List.getElem?_append_right (by omega),Nat.add_sub_cancel_left]
  rfl
 have g3:M[u]?=some (.cells 1 [[.str name]]):=gq 0
 have g4:M[A]?=some (.cells 1 [[.int .i64 0]]):=by rw [n4];exact gq 1
 have g5:M[w]?=some (.cells 1 [[.bool false]]):=by rw [n5];exact gq 2
 have g6:M[R]?=some (.cells 1 [[.int .i64 0]]):=by rw [n6];exact gq 3
 have bn:M[B]?=some (.cells 1 [[.ptr s 0 0]]):=by rw [nB];exact gq 4
 have dh:M[B+1]?=some (.cells 1 [[.str [110,47]]]):=by rw [nB];exact gq 5
 have df:M[B+2]?=some (.cells 1 [[.str [110,48]]]):=by rw [nB];exact gq 6
 rw [eM]
 refine z0U (fun ρ=>ρ 3=.ptr u 0 0/\ρ 4=.ptr A 0 0/\ρ 5=.ptr w 0 0/\ρ 6=.ptr R 0 0/\ρ 13=.fn (.func 169) [] [.ptr B 0 0,.ptr (B+1) 0 0,.ptr (B+2) 0 0]) ⟨by simp (maxDischargeDepth:=12) only [go_sem],by simp (maxDischargeDepth:=12) only [go_sem],by simp (maxDischargeDepth:=12) only [go_sem],by simp (maxDischargeDepth:=12) only [go_sem],by simp (maxDischargeDepth:=12) only [go_sem]<;>rfl⟩ ?_
 clear h0 h1
 rintro ai ⟨h3,h4,h5,h6,cu⟩
 refine z5X (gf:=169) (caps:=[.ptr B 0 0,.ptr (B+1) 0 0,.ptr (B+2) 0 0]) cu ?_
 intro r0 a1 a2 a3
 obtain ⟨v,ae⟩:∃v,M.length=v:=⟨_,rfl⟩
 obtain ⟨l,el⟩:∃l,(List.range 23).map ai=l:=⟨_,rfl⟩
 obtain ⟨L2,U⟩:∃L2,M++[Blk.lp r0 l]=L2:=⟨_,rfl⟩
 rw [ae,el,U]
 have V:Keep none' M L2:=by rw [<-U];exact Keep.app Keep.refl
 have l2:L2.length=u+8:=by rw [<-U];simp [lM]
 have gy:L2[v]?=some (.lp r0 l):=by rw [<-U,<-ae];simp
 have bi:zl L2 s F N Q d:=(h.keep kM fun _ _ h=>h).keep V fun _ _ h=>h
 have di:l.length=23:=by rw [<-el];simp
 obtain ⟨ps,D⟩:∃ps,d.scan [110,47] [110,48]=ps:=⟨_,rfl⟩
 have ed:ps.length<=900000:=by rw [<-D];exact Nat.le_trans (Nat.le_trans (List.takeWhile_sublist _).length_le (by simp)) hN
 rw [D]
 refine XT.mono (z2J (E:=E.noPan.withY 23 [14,15] zjx ziP) hP (V.get bn fun h=>h) (V.get dh fun h=>h) (V.get df fun h=>h) bi hN (Inv:=zn7 v u A w R (.lp r0 l) name ps) (Stop:=ziQ L2 v u A w R r0 l name ps) (G0:=fun t=>t=v\/t=u\/t=A\/t=w\/t=R) ?_ ?_ ?_ ?_) ?_
 ·exact ⟨gy,V.get g3 fun h=>h,V.get g4 fun h=>h,V.get g5 fun h=>h,V.get g6 fun h=>h,fun j p hj=>by omega,rfl⟩
 ·rintro i G H LA LB ⟨m,i2,I,J,S,i6,rfl⟩ hk hn
  exact ⟨hk.get m (hn _ (.inl rfl)),hk.get i2 (hn _ (.inr (.inl rfl))),hk.get I (hn _ (.inr (.inr (.inl rfl)))),hk.get J (hn _ (.inr (.inr (.inr (.inl rfl))))),hk.get S (hn _ (.inr (.inr (.inr (.inr rfl))))),i6,rfl⟩
 ·rintro i G LA ⟨m,i2,I,J,S,i6,rfl⟩ t ht
  rcases ht with rfl | rfl | rfl | rfl | rfl
  ·exact zf m
  ·exact zf i2
  ·exact zf I
  ·exact zf J
  ·exact zf S
 ·rw [D]
  rintro i G LA p hp ⟨m,i2,I,J,S,i6,rfl⟩ bz dn
  refine ⟨r0,l,m,a1,a2,a3,rfl,by decide,by rfl,by rfl,di,?_⟩
  have Z:VE l [14,15] [.str p.1,.str p.2]=(l.set 14 (.str p.1)).set 15 (.str p.2):=rfl
  have q15:yc (VE l [14,15] [.str p.1,.str p.2]) 15=.str p.2:=by rw [Z,Yb (by rw [lls];omega),if_pos rfl]
  have q14:yc (VE l [14,15] [.str p.1,.str p.2]) 14=.str p.1:=by rw [Z,Yb (by rw [lls];omega),if_neg (by decide),Yb (by omega),if_pos rfl]
  have qn:∀n,n<14->yc (VE l [14,15] [.str p.1,.str p.2]) n=ai n:=fun n hn=>by rw [Z,Yb (by rw [lls];omega),if_neg (by omega),Yb (by omega),if_neg (by omega),<-el,z3A (by omega)]
  have q3:=(qn 3 (by omega)).trans h3
  have q4:=(qn 4 (by omega)).trans h4
  have q5:=(qn 5 (by omega)).trans h5
  have q6:=(qn 6 (by omega)).trans h6
  generalize yc (VE l [14,15] _)=ρ2 at *
  unfold zjx
  simp (maxDischargeDepth:=12) only [q15,go_sem]
  refine ⟨m,?_⟩
  have m3:=zo m i2 (by simp)
  have Y:=zo m I (by simp)
  have X:=zo m J (by simp)
  have m6:=zo m S (by simp)
  have az:(A=v)=False:=eq_false fun h=>of_eq_false Y h.symm
  have ax:(w=v)=False:=eq_false fun h=>of_eq_false X h.symm
  have bu:(R=v)=False:=eq_false fun h=>of_eq_false m6 h.symm
  obtain ⟨ak,ah⟩:∃b,Blk.lp { state:=LoopState.busy,pending:=r0.pending,fn:=r0.fn,tmps:=r0.tmps,params:=r0.params,assign:=r0.assign,body:=r0.body,defers:=r0.defers } l=b:=⟨_,rfl⟩
  rw [ah]
  obtain ⟨LB,T⟩:∃LB,LA.set v ak=LB:=⟨_,rfl⟩
  have O:Keep (fun t=>t=v) LA LB:=by rw [<-T];exact Keep.set Keep.refl fun _=>rfl
  have dm:LB.length=LA.length:=by rw [<-T,lls]
  have b1:LB[v]?=some ak:=by rw [<-T,List.getElem?_set_self (zf m)]
  have b3:=O.get i2 fun h=>of_eq_false m3 h.symm
  have b4:=O.get I fun h=>of_eq_false Y h.symm
  have b5:=O.get J fun h=>of_eq_false X h.symm
  have b6:=O.get S fun h=>of_eq_false m6 h.symm
  have bg:i<ps.length:=zf hp
  have l1:=zg b1
  have l3:=zg b3
  have l4:=zg b4
  have l5:=zg b5
  have l6:=zg b6
  have ag:(A=w)=False:=eq_false (by omega)
  have au:(w=A)=False:=eq_false (by omega)
  rw [T]
  unfold ziP
  by_cases hnm:p.2=name
  ·have f1:(p.2=name)=True:=eq_true hnm
   simp (maxDischargeDepth:=12) only [q3,q4,q5,q6,b1,b3,b4,b5,b6,f1,az,ax,ag,zeo,go_sem]
   right
   have ay:Keep (fun t=>t=v\/t=u\/t=A\/t=w\/t=R) L2 LA:=bz
   refine ⟨i,bg,zbU hp hnm i6,?_,?_,?_,?_⟩
   ·rw [List.getElem?_set_self (by simp [lls];exact zf b1)]
   ·rw [List.getElem?_set_ne (fun h=>of_eq_false Y h),List.getElem?_set_ne (by omega),List.getElem?_set_self (zf b4)]
   ·rw [List.getElem?_set_ne (fun h=>of_eq_false X h),List.getElem?_set_self (by simp [lls];exact zf b5)]
   ·exact Keep.set (Keep.set (Keep.set (ay.trans O fun t _ h=>.inl h) fun _=>.inr (.inr (.inl rfl))) fun _=>.inr (.inr (.inr (.inl rfl)))) fun _=>.inl rfl
  ·have f1:(p.2=name)=False:=eq_false hnm
   have w1:IntKind.i64.wrap ((i:Int)+1)=((i+1:Nat):Int):=by rw [wrap64 (by omega) (by omega)];rfl
   simp (maxDischargeDepth:=12) only [q3,q6,b1,b3,b6,f1,w1,bu,zeo,go_sem]
   left
   refine ⟨_,⟨?_,?_,?_,?_,?_,?_,rfl⟩,fun t ht=>.inl ht,?_⟩
   ·rw [List.getElem?_set_self (by simp [lls];exact zf b1)]
   ·rw [List.getElem?_set_ne (fun h=>of_eq_false m3 h),List.getElem?_set_ne (by omega)];exact b3
   ·rw [List.getElem?_set_ne (fun h=>of_eq_false Y h),List.getElem?_set_ne (by omega)];exact b4
   ·rw [List.getElem?_set_ne (fun h=>of_eq_false X h),List.getElem?_set_ne (by omega)];exact b5
   ·rw [List.getElem?_set_ne (fun h=>of_eq_false m6 h),List.getElem?_set_self (zf b6)]
   ·intro j q hj hq
    by_cases hji:j<i
    ·exact i6 j q hji hq
    ·have:j=i:=by omega
     subst this
     rw [hp] at hq
     cases hq
     exact hnm
   ·exact Keep.set (Keep.set (O.mono fun t _ h=>.inl h) fun _=>.inr (.inr (.inr (.inr rfl)))) fun _=>.inl rfl
 ·rw [D]
  have hyl:u+7=v:=by rw [<-ae,lM]
  have aj:Keep none' L L2:=kM.trans V fun _ _ h=>h
  rintro r L' (⟨G',⟨m,i2,I,J,S,i6,rfl⟩,dw,af⟩ | ⟨i,hi,hv,m,I,J,af⟩)
  ·refine ⟨_,m,(by rw [a1];simp),?_⟩
   rw [a2]
   have Y:=zo m I (by simp)
   have X:=zo m J (by simp)
   have m6:=zo m S (by simp)
   have l4:=zg I
   have l5:=zg J
   have l6:=zg S
   have ag:(A=w)=False:=eq_false (by omega)
   have au:(w=A)=False:=eq_false (by omega)
   have hv:=zbh i6
   have hd:decide (jK ps name<ps.length)=false:=decide_eq_false (by omega)
   rw [hv]
   have bf:decide (ps.length<ps.length)=false:=decide_eq_false (by omega)
   simp (maxDischargeDepth:=12) only [h4,h5,h6,I,J,S,l4,l5,Y,X,m6,ag,au,bf,Y6,YQ,ZJ,go_sem]
   refine ⟨rfl,Keep.set (Keep.set (Keep.set (aj.trans af fun t ht h=>by omega) fun h=>by omega) fun h=>by omega) fun h=>by omega⟩
  ·refine ⟨_,m,by simp,?_⟩
   have Y:=zo m I (by simp)
   have X:=zo m J (by simp)
   have l4:=zg I
   have l5:=zg J
   have hd:decide (i<ps.length)=true:=decide_eq_true hi
   rw [hv]
   simp (maxDischargeDepth:=12) only [h4,h5,I,J,Y,X,hd,Y6,YQ,ZJ,go_sem]
   exact ⟨rfl,Keep.set (aj.trans af fun t ht h=>by omega) fun h=>by omega⟩
theorem z6S (j:E.P=Tryz.prog) {x s N:Nat} {F:Nat->Prop} {b:Int} {d:KV} {name:List UInt8} (l:L[x]?=some (exB s)) (h:zl L s F N b d) (m:d.length<=900000) :
  XT E 32 [.ptr x 0 0,.str name] L fun r L'=>r=.tup [.int .i64 (jK (d.scan [110,47] [110,48]) name),.bool (decide (jK (d.scan [110,47] [110,48]) name<(d.scan [110,47] [110,48]).length))]/\L'=L:=by
 refine zU (z7O j l h m) ?_
 rintro r L' ⟨rfl,p⟩
 exact ⟨p,_,rfl,rfl⟩
def zkK : XC :=(sO [oM 6 1,oY 7 6,oI 8 0] (.block 0 (.loop (sO [oB 9 .lss 8 7] (.seq (cT 9 .skip (.exit 0)) (.seq (.block 1 (sO [oO 10 (.idxS 1 (.t 6) (.t 8)),oL 11 10,oM 5 11] (.ops [oM 12 0,oM 13 5,oC 14 106 [.t 12,.t 13]]))) (.ops [oK 15 .add 8 1,oM 8 15])))))))
def zlC : XC :=(sO [oM 7 0,oF 8 0 1,oL 9 8,oF 10 1 1,oL 11 10,oF 12 2 1,oL 13 12,oF 14 3 1,oL 15 14,oO 16 (.bslice 1 [(.str [])] 4 [(0,(.t 9)),(1,(.t 11)),(2,(.t 13)),(3,(.t 15))]),oC 17 103 [.t 7,.t 16]] (sO [oM 18 0,oF 19 4 1,oL 20 19,oC 21 102 [.t 18,.t 20,(oi 0),(oi 4)]] (sO [oM 22 0,oF 23 5 1,oL 24 23,oC 25 106 [.t 22,.t 24]] (sO [oM 26 0,oF 27 6 1,oL 28 27,oY 29 28,oC 30 107 [.t 26,.t 29]] (.seq (sO [oF 31 6 1,oL 32 31,oY 33 32,oI 34 0] (.block 0 (.loop (sO [oB 35 .lss 34 33] (.seq (cT 35 .skip (.exit 0)) (.seq (.block 1 (sO [oO 36 (.idxS 3 (.t 32) (.t 34)),oO 37 (.loadN 3 (.t 36)),oO 4 (.alloc [(.int .i64 0),(.int .i64 0),(.str [])]),oU (.store 3 (.t 4) (.t 37))] (sO [oM 38 0,oF 39 0 4,oL 40 39,oC 41 102 [.t 38,.t 40,(oi 0),(oi 4)]] (sO [oM 42 0,oF 43 1 4,oL 44 43,oC 45 107 [.t 42,.t 44]] (.ops [oM 46 0,oF 47 2 4,oL 48 47,oC 49 106 [.t 46,.t 48]]))))) (.ops [oK 50 .add 34 1,oM 34 50]))))))) (sO [oM 51 0,oF 52 7 1,oL 53 52,oY 54 53,oC 55 107 [.t 51,.t 54]] (.seq (sO [oF 56 7 1,oL 57 56,oY 58 57,oI 59 0] (.block 2 (.loop (sO [oB 60 .lss 59 58] (.seq (cT 60 .skip (.exit 2)) (.seq (.block 3 (sO [oO 61 (.idxS 2 (.t 57) (.t 59)),oO 62 (.loadN 2 (.t 61)),oO 6 (.alloc [(.str []),(.str [])]),oU (.store 2 (.t 6) (.t 62))] (.ops [oM 63 0,oF 64 0 6,oL 65 64,oF 66 1 6,oL 67 66,oO 68 (.bslice 1 [(.str [])] 2 [(0,(.t 65)),(1,(.t 67))]),oC 69 103 [.t 63,.t 68]]))) (.ops [oK 70 .add 59 1,oM 59 70]))))))) (.ops [oM 71 0,oF 72 8 1,oL 73 72,oC 74 107 [.t 71,.t 73]]))))))))
def q43 : XC :=(sO [oO 1 (.box (.t 0)),oV 2 .nsl,oI 3 0] (sO [oO 4 (.mkfn (.func 105) [] [.t 1]),oC 5 100 [.t 4],oX 6 0 5,oX 7 1 5,oM 2 6,oM 3 7] .ret))
def yE (L1 L:List Blk) (p:Nat) (bs:List (List IV)):Prop:=∃F,yX L p F bs/\Grown (fun t=>t=p) F L1 L/\Keep (fun t=>t=p) L1 L
theorem yE.get {L1:List Blk} {p t:Nat} {bs:List (List IV)} {k:Blk} (h:yE L1 L p bs) (d:L1[t]?=some k) (b:¬t=p):L[t]?=some k:=by
 obtain ⟨F,_,_,h⟩:=h
 exact h.get d b
theorem yE.app {L1:List Blk} {p:Nat} {bs:List (List IV)} {k:Blk} (h:yE L1 L p bs):yE L1 (L++[k]) p bs:=by
 obtain ⟨F,h1,h2,d⟩:=h
 refine ⟨F,h1.keep (G:=none') (Keep.app Keep.refl) fun _ _ h=>h,fun t b=>?_,Keep.app d⟩
 rcases h2 t b with h | h
 ·exact .inl h
 ·right;simp only [lla,llc,lln];omega
theorem yE.step {L1 L':List Blk} {p:Nat} {b:List (List IV)} {F F':Nat->Prop} (h2:Grown (fun t=>t=p) F L1 L) (d:Keep (fun t=>t=p) L1 L) (h:yX L' p F' b) (hg:Grown F F' L L') (j:Keep F L L'):yE L1 L' p b:=by
 refine ⟨F',h,h2.trans hg d.1 j.1,d.trans j fun t m l=>?_⟩
 rcases h2 t l with h | h
 ·exact h
 ·omega
theorem z5N (X:E.P=Tryz.prog) {p g:Nat} {l:List (List UInt8)} {F:Nat->Prop} {bs:List (List IV)} (h:yX L p F bs) (hg:L[g]?=some (.cells 1 (l.map fun s=>[.str s]))) (U:¬F g) (hl:l.length<=1000) (hs:∀s∈l,s.length<=100000) (hN:bs.length+1000000000<=70368744177664) :
  XT E 103 [.ptr p 0 0,.sl g 0 l.length l.length] L fun r L'=>r=.tup []/\(∃F',yX L' p F' (bs++l.flatMap zH)/\Grown F F' L L')/\Keep F L L':=by
 have lg:=zg hg
 refine xt2 (fn:=Tryz.f103) (rs:=[]) (c:=zkK) X fun ρ A h1=>?_
 unfold zkK
 simp only [h1,go_sem]
 refine zC (fun n ρ L3=>∃i:Nat,i<=l.length/\n=l.length - i/\ρ 0=.ptr p 0 0/\ρ 6=.sl g 0 l.length l.length/\ρ 7=.int .i64 l.length/\ρ 8=.int .i64 i/\∃F',yX L3 p F' (bs++(l.take i).flatMap zH)/\Grown F F' L L3/\Keep F L L3)
  ⟨0,Nat.zero_le _,rfl,by simp only [A,go_sem],by simp only [go_sem],by simp only [go_sem],by simp only [go_sem]<;>rfl,F,by simpa using h,Grown.refl,Keep.refl⟩ ?_
 clear A h1 ρ
 rintro n ρ L3 ⟨i,hi,rfl,A,V,T,G,F3,d,j,b⟩
 have u:=b.get hg U
 have ae:=zg u
 by_cases hc:i<l.length
 ·have e1:((i:Int)<(l.length:Int))=True:=tO
  have e0:((0:Int)<=(i:Int))=True:=tO
  obtain ⟨o,B⟩:∃o,o=l[i]:=⟨_,rfl⟩
  have q:l[i]?=some o:=by rw [B];exact List.getElem?_eq_getElem hc
  have R:o∈l:=List.mem_of_getElem? q
  have af:(l.map fun s=>[IV.str s]).length=l.length:=by simp
  have S:(l.map fun s=>[IV.str s])[i]?=some [.str o]:=by simp [q]
  have M:(l.map fun s=>[IV.str s]).getD i []=[.str o]:=by rw [List.getD_eq_getElem?_getD,S];rfl
  have O:i<(l.map fun s=>[IV.str s]).length:=by omega
  have Z:IntKind.i64.wrap ((i:Int)+1)=((i+1:Nat):Int):=wR
  have ag:((l.take i).flatMap zH).length<=i*100008:=by
   have:∀m:List (List UInt8),(∀s∈m,s.length<=100000)->(m.flatMap zH).length<=m.length*100008:=fun m=>by
    induction m with
    | nil=>intro _;simp
    | cons a m ih=>
     intro Q
     have h1:=ih fun s hs=>Q s (List.mem_cons_of_mem _ hs)
     have h2:=zZ a (by have:=Q a List.mem_cons_self;omega)
     have h3:=Q a List.mem_cons_self
     simp only [List.flatMap_cons,lla,llc,Nat.succ_mul]
     omega
   have h1:=this (l.take i) fun s h=>hs s (List.mem_of_mem_take h)
   have w:(l.take i).length=i:=by simp;omega
   rwa [w] at h1
  simp only [A,V,T,G,e1,e0,u,M,O,Int.toNat_natCast,go_sem]
  have Y:l.take (i+1)=l.take i++[o]:=by rw [List.take_add_one,q];rfl
  refine zh (z1B (E:=E.noPan) X d (by have:=hs o R;omega) (by rw [lla];omega)) ?_
  rintro r L4 ⟨rfl,⟨F4,D,I⟩,v⟩
  simp only [A,V,T,G,Z,go_sem]
  refine ⟨l.length - (i+1),od,i+1,od,rfl,rfl,F4,?_,j.trans I b.1 v.1,b.trans v fun t w h=>?_⟩
  ·have e5:bs++(l.take (i+1)).flatMap zH=bs++(l.take i).flatMap zH++zH o:=by rw [Y,List.flatMap_append];simp
   rw [e5];exact D
  ·rcases j t h with h | h
   ·exact h
   ·omega
 ·have e1:((i:Int)<(l.length:Int))=False:=fO
  simp only [T,G,e1,go_sem]
  have J:i=l.length:=by omega
  subst J
  rw [List.take_length] at d
  exact ⟨⟨F3,d,j⟩,b⟩
structure StV where
 dfn:List UInt8
 id:List UInt8
 par:List UInt8
 pn:List UInt8
 st:Nat
 txt:List UInt8
 ev:Nat
def StV.cellsW (s:StV) (v w:IV):List IV:=[.str s.dfn,.str s.id,.str s.par,.str s.pn,.int .i64 s.st,.str s.txt,v,w,.int .i64 s.ev]
def StV.cells (s:StV):List IV:=[.str s.dfn,.str s.id,.str s.par,.str s.pn,.int .i64 s.st,.str s.txt,.nsl,.nsl,.int .i64 s.ev]
def StV.ok (s:StV):Prop:=s.dfn.length<=100000/\s.id.length<=100000/\s.par.length<=100000/\s.pn.length<=100000/\s.st<=4/\s.txt.length<=100000/\s.ev<=4503599627370496
def StV.bytes (s:StV):List (List IV):=[s.dfn,s.id,s.par,s.pn].flatMap zH++zL s.st++zH s.txt++zL 0++zL 0++zL s.ev
theorem z3u (M:E.P=Tryz.prog) {b:Nat} {s:StV} {v w:IV} (hb:L[b]?=some (.cells 9 [s.cellsW v w])) (hv:lenOf v=some 0) (hw:lenOf w=some 0) (hs:s.ok):Writes E L 105 [.ptr b 0 0] s.bytes:=by
 intro L1 p hk hp B
 obtain ⟨o1,o2,o3,o4,o5,o6,o7⟩:=hs
 have d:=hk.get hb fun h=>h
 have df:=zg d
 have cu:=zf hb
 unfold StV.cellsW at d
 refine xt2 (fn:=Tryz.f105) (rs:=[]) (c:=zlC) M fun ρ j h1=>?_
 unfold zlC
 simp only [j,h1,d,go_sem]
 have dm:=B.lt
 have tl:=fun x (hx:List.length x<=100000)=>zZ x od
 have t1:=tl s.dfn o1
 have t2:=tl s.id o2
 have t3:=tl s.par o3
 have t4:=tl s.pn o4
 have t5:=tl s.txt o6
 have nl:=fun x (hx:x<=4503599627370496)=>(show (zL x).length<=8 by have:=zM x;have:=Zj (n:=x) (k:=7) (by omega);omega)
 have n1:=nl s.st od
 have n2:=nl s.ev o7
 have n0:=nl 0 od
 refine zh (z5N (E:=E.noPan) (l:=[s.dfn,s.id,s.par,s.pn]) (g:=L1.length) M (B.keep (G:=none') (Keep.app Keep.refl) fun _ _ h=>h) (by simp only [go_sem]<;>rfl) od (by simp) (by intro x hx;simp only [List.mem_cons,List.not_mem_nil,or_false] at hx;rcases hx with rfl | rfl | rfl | rfl<;>assumption) (by simp)) ?_
 rintro r L2 ⟨rfl,⟨F2,q,u⟩,A⟩
 have ai:yE L1 L2 p (([s.dfn,s.id,s.par,s.pn]:List (List UInt8)).flatMap zH):=by
  refine ⟨F2,by simpa using q,fun t ht=>?_,((Keep.app Keep.refl:Keep none' L1 _).mono (F':=fun t=>t=p) fun t _ h=>h.elim).trans A fun t _ h=>h⟩
  rcases u t ht with h | h
  ·exact .inl h
  ·right;simp only [lla,llc,lln] at h;omega
 have dn:(([s.dfn,s.id,s.par,s.pn]:List (List UInt8)).flatMap zH).length<=500000:=by simp;omega
 clear q u A
 have m:¬b=p:=by omega
 have bg:=ai.get d m
 have bz:=zg bg
 simp only [j,h1,bg,go_sem]
 obtain ⟨F2,q,u,A⟩:=ai
 refine zh (WU (E:=E.noPan) (n:=s.st) M q od od od od) ?_
 rintro r L3 ⟨rfl,⟨F3,R,V⟩,U⟩
 have az:=yE.step u A R V U
 have aj:=az.get d m
 have ed:=zg aj
 obtain ⟨F3,R,V,U⟩:=az
 simp only [j,h1,aj,go_sem]
 refine zh (z1B (E:=E.noPan) M R od (by simp only [lla];omega)) ?_
 rintro r L4 ⟨rfl,⟨F4,S,T⟩,D⟩
 have bi:=yE.step V U S T D
 have bf:=bi.get d m
 have dh:=zg bf
 obtain ⟨F4,S,T,D⟩:=bi
 simp only [j,h1,bf,zt hv,go_sem]
 refine zh (YG (E:=E.noPan) (n:=0) M S od (by simp only [lla];omega)) ?_
 rintro r L5 ⟨rfl,⟨F5,I,ah⟩,Y⟩
 have ak:=yE.step T D I ah Y
 have Z:=ak.get d m
 have dw:=zg Z
 simp only [h1,Z,zt hv,go_sem]
 refine zC (fun n ρ L6=>n=0/\L6=L5/\ρ 0=.ptr p 0 0/\ρ 1=.ptr b 0 0/\ρ 33=.int .i64 0/\ρ 34=.int .i64 0) ⟨rfl,rfl,by simp only [j,go_sem],by simp only [h1,go_sem],by simp only [go_sem]<;>rfl,by simp only [go_sem]⟩ ?_
 clear j h1 ρ
 rintro n ρ L6 ⟨rfl,rfl,j,h1,ay,au⟩
 simp only [j,h1,ay,au,Z,zt hw,go_sem]
 obtain ⟨F5,I,ah,Y⟩:=ak
 refine zh (YG (E:=E.noPan) (n:=0) M I od (by simp only [lla];omega)) ?_
 rintro r L7 ⟨rfl,⟨F7,ae,af⟩,O⟩
 have ax:=yE.step ah Y ae af O
 have ag:=ax.get d m
 have di:=zg ag
 simp only [h1,ag,zt hw,go_sem]
 refine zC (fun n ρ L6=>n=0/\L6=L7/\ρ 0=.ptr p 0 0/\ρ 1=.ptr b 0 0/\ρ 58=.int .i64 0/\ρ 59=.int .i64 0) ⟨rfl,rfl,by simp only [j,go_sem],by simp only [h1,go_sem],by simp only [go_sem]<;>rfl,by simp only [go_sem]⟩ ?_
 clear j h1 ay au ρ
 rintro n ρ L6 ⟨rfl,rfl,j,h1,bn,bu⟩
 simp only [j,h1,bn,bu,ag,go_sem]
 obtain ⟨F7,ae,af,O⟩:=ax
 refine zh (YG (E:=E.noPan) (n:=s.ev) M ae od (by simp only [lla];omega)) ?_
 rintro r L8 ⟨rfl,⟨F8,J,Q⟩,X⟩
 obtain ⟨F8,J,Q,X⟩:=yE.step af O J Q X
 simp only [go_sem]
 exact ⟨⟨F8,J,Q⟩,X⟩
theorem StV.bytes_ne (s:StV):s.bytes≠[]:=by simp [StV.bytes,zL]
theorem StV.bytes_byte (s:StV):zA s.bytes:=by
 have b:∀x,zA (zH x):=fun x=>(zO _).app (Zm _)
 unfold StV.bytes
 refine ((((zA.app ?_ (zO _)).app (b _)).app (zO _)).app (zO _)).app (zO _)
 intro r d
 obtain ⟨x,_,h⟩:=List.mem_flatMap.1 d
 exact b x r h
theorem z6C (l:E.P=Tryz.prog) {s:StV} {v w:IV} (j:lenOf v=some 0) (q:lenOf w=some 0) (hs:s.ok):XT E 43 [.agg (s.cellsW v w)] L fun r L'=>r=.tup [.isl s.bytes,.int .i64 0]/\L'=L:=by
 refine zU (R:=fun r L'=>∃v,r=.tup [v,.int .i64 0]/\zcz L L' v s.bytes/\Keep none' L L') ?_ ?_
 ·skip
  refine xt1 (fn:=Tryz.f43) (rs:=[.tmp 2,.tmp 3]) (c:=q43) l fun ρ A=>?_
  unfold q43
  have p:cellsOf (.agg (s.cellsW v w))=s.cellsW v w:=rfl
  have d:(s.cellsW v w).length=9:=rfl
  simp only [A,p,d,go_sem]
  refine zh (Yp (E:=E.noPan) l (z3u l (b:=L.length) (s:=s) (v:=v) (w:=w) (by simp) j q hs) s.bytes_ne) ?_
  rintro r L' ⟨v,rfl,⟨g,rfl,hg,B,u⟩,m⟩
  simp only [go_sem]
  exact ⟨_,rfl,⟨g,rfl,by simp at hg;omega,B,u⟩,Keep.trans (Keep.app Keep.refl) m fun _ _ h=>h⟩
 ·rintro r L' ⟨v,rfl,j,m⟩
  exact ⟨m,_,by simp only [fuel,conv,zJ,wC j];rfl,rfl⟩
def zkw : XC :=(sO [oO 2 (.alloc [(.str []),(.str []),(.str []),(.str []),(.int .i64 0),(.str []),.nsl,.nsl,(.int .i64 0)]),oI 3 0,oI 4 0] (sO [oM 5 0,oC 6 192 [.t 5,(.f 193)],oX 7 0 6,oX 8 1 6,oX 9 2 6,oU (.store 9 (.t 2) (.t 7)),oM 3 8,oM 4 9] .ret))
def zk4 : XC :=(sO [oO 2 (.alloc [(.str []),(.str []),(.str []),(.str []),(.int .i64 0),(.str []),.nsl,.nsl,(.int .i64 0)])] (.seq (sO [oF 7 0 2,oF 8 1 2,oF 9 2 2,oF 10 3 2,oO 11 (.bslice 1 [(.raw (.pointer none))] 4 [(0,(.t 7)),(1,(.t 8)),(2,(.t 9)),(3,(.t 10))]),oY 12 11,oI 13 0] (.block 0 (.loop (sO [oB 14 .lss 13 12] (.seq (cT 14 .skip (.exit 0)) (.seq (.block 1 (sO [oO 15 (.idxS 1 (.t 11) (.t 13)),oL 16 15,oM 4 16] (.ops [oM 17 4,oM 18 0,oC 19 96 [.t 18],oN 20 17,oS 20 19]))) (.ops [oK 21 .add 13 1,oM 13 21]))))))) (sO [oM 22 0,oC 23 95 [.t 22,(oi 0),(oi 4)],oF 24 4 2,oS 24 23] (sO [oM 25 0,oC 26 96 [.t 25],oF 27 5 2,oS 27 26] (.seq (sO [oM 28 0,oC 29 147 [.t 28],oI 30 0] (.block 2 (.loop (sO [oB 31 .lss 30 29] (.seq (cT 31 .skip (.exit 2)) (.seq (.block 3 (sO [oO 5 (.alloc [(.int .i64 0),(.int .i64 0),(.str [])])] (sO [oM 32 0,oC 33 95 [.t 32,(oi 0),(oi 4)],oF 34 0 5,oS 34 33] (sO [oM 35 0,oC 36 147 [.t 35],oF 37 1 5,oS 37 36] (sO [oM 38 0,oC 39 96 [.t 38],oF 40 2 5,oS 40 39] (.ops [oF 41 6 2,oL 42 41,oO 43 (.loadN 3 (.t 5)),oO 44 (.bslice 3 [(.int .i64 0),(.int .i64 0),(.str [])] 1 [(0,(.t 43))]),oO 45 (.append 3 32 (.t 42) (.t 44)),oF 46 6 2,oS 46 45])))))) (.ops [oK 47 .add 30 1,oM 30 47]))))))) (.seq (sO [oM 48 0,oC 49 147 [.t 48],oI 50 0] (.block 4 (.loop (sO [oB 51 .lss 50 49] (.seq (cT 51 .skip (.exit 4)) (.seq (.block 5 (sO [oO 6 (.alloc [(.str []),(.str [])])] (sO [oM 52 0,oC 53 96 [.t 52],oF 54 0 6,oS 54 53] (sO [oM 55 0,oC 56 96 [.t 55],oF 57 1 6,oS 57 56] (.ops [oF 58 7 2,oL 59 58,oO 60 (.loadN 2 (.t 6)),oO 61 (.bslice 2 [(.str []),(.str [])] 1 [(0,(.t 60))]),oO 62 (.append 2 32 (.t 59) (.t 61)),oF 63 7 2,oS 63 62]))))) (.ops [oK 64 .add 50 1,oM 50 64]))))))) (sO [oM 65 0,oC 66 147 [.t 65],oF 67 8 2,oS 67 66] (sO [oO 68 (.loadN 9 (.t 2)),oU (.store 9 (.t 2) (.t 68))] .ret))))))))
def WJ (L1 L:List Blk) (p x:Nat) (bs:List (List IV)) (a N:Nat) (cs:List IV):Prop:=L[p]?=some (yZ bs a)/\L[x]?=some (.cells N [cs])/\Keep (fun t=>t=p) L1 L/\L1.length<=x/\p<L1.length
theorem WJ.next {L1:List Blk} {p x a N:Nat} {bs:List (List IV)} {cs:List IV} (h:WJ L1 L p x bs a N cs) (d:Nat) (b:List IV):WJ L1 ((L.set p (yZ bs d)).set x (.cells N [b])) p x bs d N b:=by
 obtain ⟨h1,h2,m,q,j⟩:=h
 have l:¬x=p:=by omega
 refine ⟨?_,?_,Keep.set (Keep.set m fun _=>rfl) fun h=>by omega,q,j⟩
 ·rw [List.getElem?_set_ne l,List.getElem?_set_self (zf h1)]
 ·rw [List.getElem?_set_self (by rw [lls];exact zf h2)]
theorem WJ.eye {L1:List Blk} {p x a N:Nat} {bs:List (List IV)} {cs:List IV} (h:WJ L1 L p x bs a N cs) (b:Nat):WJ L1 (L.set p (yZ bs b)) p x bs b N cs:=by
 obtain ⟨h1,h2,l,m,d⟩:=h
 have j:¬p=x:=by omega
 refine ⟨?_,?_,Keep.set l fun _=>rfl,m,d⟩
 ·rw [List.getElem?_set_self (zf h1)]
 ·rw [List.getElem?_set_ne j];exact h2
theorem WJ.app {L1:List Blk} {p x a N:Nat} {bs:List (List IV)} {cs:List IV} (h:WJ L1 L p x bs a N cs) (b:Blk):WJ L1 (L++[b]) p x bs a N cs:=by
 obtain ⟨h1,h2,j,l,d⟩:=h
 exact ⟨Zu h1,Zu h2,Keep.app j,l,d⟩
theorem Zr {A B bs:List (List IV)} {a:Nat} (h:bs=A++B) (ha:a=A.length):bs.drop a=B:=by subst h;subst ha;exact List.drop_left
def StV.zero:List IV:=[.str [],.str [],.str [],.str [],.int .i64 0,.str [],.nsl,.nsl,.int .i64 0]
theorem z5g (G:E.P=Tryz.prog) {s:StV} (hs:s.ok):Reads E L 193 [] s.bytes none' fun r M=>r=.agg s.cells:=by
 intro L1 p hk hp hl he
 obtain ⟨o1,o2,o3,o4,o5,o6,o7⟩:=hs
 have U:=fun x (T:List.length x<=100000)=>zZ x od
 have Z:=fun x (T:x<=4503599627370496)=>(show (zL x).length<=8 by have:=zM x;have:=Zj (n:=x) (k:=7) (by omega);omega)
 have t1:=U s.dfn o1
 have t2:=U s.id o2
 have t3:=U s.par o3
 have t4:=U s.pn o4
 have t5:=U s.txt o6
 have n1:=Z s.st od
 have n2:=Z s.ev o7
 have n0:=Z 0 od
 have m:s.bytes.length<=1099511627776:=by simp only [StV.bytes,lla,List.flatMap_cons,List.flatMap_nil,lln];omega
 have u:=s.bytes_byte
 have e0:s.bytes=[]++(zH s.dfn++(zH s.id++zH s.par++zH s.pn++zL s.st++zH s.txt++zL 0++zL 0++zL s.ev)):=by simp [StV.bytes]
 have e1:s.bytes=zH s.dfn++(zH s.id++(zH s.par++zH s.pn++zL s.st++zH s.txt++zL 0++zL 0++zL s.ev)):=by simp [StV.bytes]
 have e2:s.bytes=(zH s.dfn++zH s.id)++(zH s.par++(zH s.pn++zL s.st++zH s.txt++zL 0++zL 0++zL s.ev)):=by simp [StV.bytes]
 have e3:s.bytes=(zH s.dfn++zH s.id++zH s.par)++(zH s.pn++(zL s.st++zH s.txt++zL 0++zL 0++zL s.ev)):=by simp [StV.bytes]
 have e4:s.bytes=(zH s.dfn++zH s.id++zH s.par++zH s.pn)++(zL s.st++(zH s.txt++zL 0++zL 0++zL s.ev)):=by simp [StV.bytes]
 have e5:s.bytes=(zH s.dfn++zH s.id++zH s.par++zH s.pn++zL s.st)++(zH s.txt++(zL 0++zL 0++zL s.ev)):=by simp [StV.bytes]
 have e6:s.bytes=(zH s.dfn++zH s.id++zH s.par++zH s.pn++zL s.st++zH s.txt)++(zL 0++(zL 0++zL s.ev)):=by simp [StV.bytes]
 have e7:s.bytes=(zH s.dfn++zH s.id++zH s.par++zH s.pn++zL s.st++zH s.txt++zL 0)++(zL 0++zL s.ev):=by simp [StV.bytes]
 have e8:s.bytes=(zH s.dfn++zH s.id++zH s.par++zH s.pn++zL s.st++zH s.txt++zL 0++zL 0)++(zL s.ev++[]):=by simp [StV.bytes]
 have m1:=zM s.st
 have m2:=zM 0
 have m3:=zM s.ev
 generalize ax:s.bytes=bs at *
 refine xt1 (fn:=Tryz.f193) (rs:=[.cellN 2 9]) (c:=zk4) G fun ρ d=>?_
 unfold zk4
 simp only [go_sem]
 obtain ⟨x,T⟩:∃x,L1.length=x:=⟨_,rfl⟩
 obtain ⟨q,hq⟩:∃q,(L1++[Blk.cells 9 [StV.zero]]).length=q:=⟨_,rfl⟩
 have au:q=x+1:=by rw [<-hq,<-T];simp
 obtain ⟨Q,A⟩:∃Q,Blk.cells 1 [[IV.ptr x 0 0],[IV.ptr x 0 1],[IV.ptr x 0 2],[IV.ptr x 0 3]]=Q:=⟨_,rfl⟩
 have st0:WJ L1 (L1++[Blk.cells 9 [StV.zero]]++[Q]) p x bs 0 9 StV.zero:=⟨Zu (Zu he),by rw [<-T];simp [],Keep.app (Keep.app Keep.refl),od,od⟩
 have b:(L1++[Blk.cells 9 [StV.zero]]++[Q])[q]?=some Q:=by rw [<-hq];simp []
 have ez:Blk.cells 9 [[IV.str [],IV.str [],IV.str [],IV.str [],IV.int IntKind.i64 0,IV.str [],IV.nsl,IV.nsl,IV.int IntKind.i64 0]]=Blk.cells 9 [StV.zero]:=rfl
 rw [ez,T,hq,A]
 generalize L1++[Blk.cells 9 [StV.zero]]++[Q]=L2 at *
 have w:(p=x)=False:=fO
 have ak:(x=p)=False:=fO
 have I:(p=q)=False:=fO
 have J:(x=q)=False:=fO
 refine zC (fun n ρ L3=>∃i a cs,n=4 - i/\ρ 0=.ptr p 0 0/\ρ 2=.ptr x 0 0/\ρ 11=.sl q 0 4 4/\ρ 12=.int .i64 4/\ρ 13=.int .i64 (i:Nat)/\WJ L1 L3 p x bs a 9 cs/\L3[q]?=some Q/\((i=0/\a=0/\cs=[.str [],.str [],.str [],.str [],.int .i64 0,.str [],.nsl,.nsl,.int .i64 0])\/(i=1/\a=(zH s.dfn).length/\cs=[.str s.dfn,.str [],.str [],.str [],.int .i64 0,.str [],.nsl,.nsl,.int .i64 0])\/(i=2/\a=(zH s.dfn++zH s.id).length/\cs=[.str s.dfn,.str s.id,.str [],.str [],.int .i64 0,.str [],.nsl,.nsl,.int .i64 0])\/(i=3/\a=(zH s.dfn++zH s.id++zH s.par).length/\cs=[.str s.dfn,.str s.id,.str s.par,.str [],.int .i64 0,.str [],.nsl,.nsl,.int .i64 0])\/(i=4/\a=(zH s.dfn++zH s.id++zH s.par++zH s.pn).length/\cs=[.str s.dfn,.str s.id,.str s.par,.str s.pn,.int .i64 0,.str [],.nsl,.nsl,.int .i64 0])))
  ⟨0,0,_,rfl,by simp only [d,go_sem],by simp only [go_sem],by simp only [go_sem]<;>rfl,by simp only [go_sem]<;>rfl,by simp only [go_sem]<;>rfl,st0,b,.inl ⟨rfl,rfl,rfl⟩⟩ ?_
 clear d ρ st0 b
 rintro n ρ L3 ⟨i,a,cs,rfl,d,h2,v,j,l,st,b,hc⟩
 have S:=st.2.1
 have lx:=zg S
 have lp:=zg st.1
 have lq:=zg b
 rw [<-A] at b
 rcases hc with ⟨rfl,rfl,rfl⟩ | ⟨rfl,rfl,rfl⟩ | ⟨rfl,rfl,rfl⟩ | ⟨rfl,rfl,rfl⟩ | ⟨rfl,rfl,rfl⟩
 ·simp only [d,v,j,l,b,go_sem]
  refine zh (wY (E:=E.noPan) (s:=s.dfn) G st.1 (Zr e0 rfl) u m od) ?_
  rintro r L4 ⟨rfl,rfl⟩
  simp only [YF,d,h2,v,j,l,S,w,go_sem]
  refine ⟨3,by decide,1,_,_,rfl,rfl,st.next _ _,?_,.inr (.inl ⟨rfl,?_,rfl⟩)⟩
  ·rw [List.getElem?_set_ne (fun h=>of_eq_false J h),List.getElem?_set_ne (fun h=>of_eq_false I h),b,A]
  ·simp only []
 ·simp only [d,v,j,l,b,go_sem]
  refine zh (wY (E:=E.noPan) (s:=s.id) G st.1 (Zr e1 rfl) u m od) ?_
  rintro r L4 ⟨rfl,rfl⟩
  simp only [YF,d,h2,v,j,l,S,w,go_sem]
  refine ⟨2,by decide,2,_,_,rfl,rfl,st.next _ _,?_,.inr (.inr (.inl ⟨rfl,?_,rfl⟩))⟩
  ·rw [List.getElem?_set_ne (fun h=>of_eq_false J h),List.getElem?_set_ne (fun h=>of_eq_false I h),b,A]
  ·simp only [lla]
 ·simp only [d,v,j,l,b,go_sem]
  refine zh (wY (E:=E.noPan) (s:=s.par) G st.1 (Zr e2 rfl) u m od) ?_
  rintro r L4 ⟨rfl,rfl⟩
  simp only [YF,d,h2,v,j,l,S,w,go_sem]
  refine ⟨1,by decide,3,_,_,rfl,rfl,st.next _ _,?_,.inr (.inr (.inr (.inl ⟨rfl,?_,rfl⟩)))⟩
  ·rw [List.getElem?_set_ne (fun h=>of_eq_false J h),List.getElem?_set_ne (fun h=>of_eq_false I h),b,A]
  ·simp only [lla]
 ·simp only [d,v,j,l,b,go_sem]
  refine zh (wY (E:=E.noPan) (s:=s.pn) G st.1 (Zr e3 rfl) u m od) ?_
  rintro r L4 ⟨rfl,rfl⟩
  simp only [YF,d,h2,v,j,l,S,w,go_sem]
  refine ⟨0,by decide,4,_,_,rfl,rfl,st.next _ _,?_,.inr (.inr (.inr (.inr (⟨rfl,?_,rfl⟩))))⟩
  ·rw [List.getElem?_set_ne (fun h=>of_eq_false J h),List.getElem?_set_ne (fun h=>of_eq_false I h),b,A]
  ·simp only [lla]
 ·simp only [d,j,l,go_sem]
  clear v j l b lq
  refine zh (WV (E:=E.noPan) (n:=s.st) G st.1 (Zr e4 rfl) u m od od od) ?_
  rintro r L4 ⟨rfl,rfl⟩
  simp only [d,h2,S,w,go_sem]
  have D:=st.next ((zH s.dfn++zH s.id++zH s.par++zH s.pn).length+(zn s.st+1)) [.str s.dfn,.str s.id,.str s.par,.str s.pn,.int .i64 s.st,.str [],.nsl,.nsl,.int .i64 0]
  obtain ⟨L4,ai⟩:∃L4,(L3.set p (yZ bs ((zH s.dfn++zH s.id++zH s.par++zH s.pn).length+(zn s.st+1)))).set x (.cells 9 [[.str s.dfn,.str s.id,.str s.par,.str s.pn,.int .i64 s.st,.str [],.nsl,.nsl,.int .i64 0]])=L4:=⟨_,rfl⟩
  rw [ai] at D ⊢
  have g4:=D.2.1
  have l4:=zg g4
  have p4:=zg D.1
  refine zh (wY (E:=E.noPan) (s:=s.txt) G D.1 (Zr e5 (by simp only [lla];omega)) u m od) ?_
  rintro r L5 ⟨rfl,rfl⟩
  simp only [d,h2,g4,w,go_sem]
  have O:=D.next ((zH s.dfn++zH s.id++zH s.par++zH s.pn).length+(zn s.st+1)+(zH s.txt).length) [.str s.dfn,.str s.id,.str s.par,.str s.pn,.int .i64 s.st,.str s.txt,.nsl,.nsl,.int .i64 0]
  obtain ⟨L5,aj⟩:∃L5,(L4.set p (yZ bs ((zH s.dfn++zH s.id++zH s.par++zH s.pn).length+(zn s.st+1)+(zH s.txt).length))).set x (.cells 9 [[.str s.dfn,.str s.id,.str s.par,.str s.pn,.int .i64 s.st,.str s.txt,.nsl,.nsl,.int .i64 0]])=L5:=⟨_,rfl⟩
  rw [aj] at O ⊢
  refine zh (Y1 (E:=E.noPan) (n:=0) G O.1 (Zr e6 (by simp only [lla];omega)) u m od) ?_
  rintro r L6 ⟨rfl,rfl⟩
  simp only [go_sem]
  have R:=O.eye ((zH s.dfn++zH s.id++zH s.par++zH s.pn).length+(zn s.st+1)+(zH s.txt).length+(zn 0+1))
  obtain ⟨L6,Y⟩:∃L6,L5.set p (yZ bs ((zH s.dfn++zH s.id++zH s.par++zH s.pn).length+(zn s.st+1)+(zH s.txt).length+(zn 0+1)))=L6:=⟨_,rfl⟩
  rw [Y] at R ⊢
  refine zC (fun n ρ L=>n=0/\L=L6/\ρ 0=.ptr p 0 0/\ρ 2=.ptr x 0 0/\ρ 29=.int .i64 0/\ρ 30=.int .i64 0) ⟨rfl,rfl,by simp only [d,go_sem],by simp only [h2,go_sem],by simp only [go_sem]<;>rfl,by simp only [go_sem]⟩ ?_
  clear d h2 ρ
  rintro n ρ L6 ⟨rfl,rfl,d,h2,X,V⟩
  simp only [d,X,V,go_sem]
  refine zh (Y1 (E:=E.noPan) (n:=0) G R.1 (Zr e7 (by simp only [lla];omega)) u m od) ?_
  rintro r L7 ⟨rfl,rfl⟩
  simp only [go_sem]
  have B:=R.eye ((zH s.dfn++zH s.id++zH s.par++zH s.pn).length+(zn s.st+1)+(zH s.txt).length+(zn 0+1)+(zn 0+1))
  obtain ⟨L7,ag⟩:∃L7,L6.set p (yZ bs ((zH s.dfn++zH s.id++zH s.par++zH s.pn).length+(zn s.st+1)+(zH s.txt).length+(zn 0+1)+(zn 0+1)))=L7:=⟨_,rfl⟩
  rw [ag] at B ⊢
  refine zC (fun n ρ L=>n=0/\L=L7/\ρ 0=.ptr p 0 0/\ρ 2=.ptr x 0 0/\ρ 49=.int .i64 0/\ρ 50=.int .i64 0) ⟨rfl,rfl,by simp only [d,go_sem],by simp only [h2,go_sem],by simp only [go_sem]<;>rfl,by simp only [go_sem]⟩ ?_
  clear d h2 X V ρ
  rintro n ρ L7 ⟨rfl,rfl,d,h2,ae,ah⟩
  simp only [d,ae,ah,go_sem]
  have g7:=B.2.1
  have l7:=zg g7
  have p7:=zg B.1
  refine zh (Y1 (E:=E.noPan) (n:=s.ev) G B.1 (Zr e8 (by simp only [lla];omega)) u m od) ?_
  rintro r L8 ⟨rfl,rfl⟩
  simp only [h2,g7,l7,w,ak,p7,Y6,Zk,ZJ,go_sem]
  have af:(zH s.dfn++zH s.id++zH s.par++zH s.pn).length+(zn s.st+1)+(zH s.txt).length+(zn 0+1)+(zn 0+1)+(zn s.ev+1)=bs.length:=by rw [e8];simp only [lla,lln];omega
  rw [af]
  exact ⟨rfl,rfl,Keep.set (Keep.set (Keep.set (B.2.2.1.mono fun t _ h=>.inl h) fun _=>.inl rfl) fun h=>by omega) fun h=>by omega⟩
def StV.icells (s:StV):List IV:=[.str s.dfn,.str s.id,.str s.par,.str s.pn,.int .i64 s.st,.str s.txt,.isl [],.isl [],.int .i64 s.ev]
theorem Vt (m:E.P=Tryz.prog) {s:StV} (hs:s.ok):XT E 132 [.isl s.bytes] L fun r L'=>r=.tup [.agg s.cells,.int .i64 0,.int .i64 0]/\Keep none' L L':=by
 ·skip
  refine xt1 (fn:=Tryz.f132) (rs:=[.cellN 2 9,.tmp 3,.tmp 4]) (c:=zkw) m fun ρ A=>?_
  unfold zkw
  simp only [A,go_sem]
  refine zh (z8T (E:=E.noPan) m (z5g m hs) (fun r M M' _ h=>h) (fun _ h=>h.elim) (fun r M h=>⟨_,h,rfl,rfl⟩)) ?_
  rintro r L2 ⟨v,rfl,rfl,u⟩
  have w:=u.get (t:=L.length) (k:=Blk.cells 9 [StV.zero]) (by simp [StV.zero]) (fun h=>h)
  have B:=zg w
  have q:cellsOf (.agg s.cells)=s.cells:=rfl
  have d:s.cells.length=9:=rfl
  have p:s.cells.all zG=true:=rfl
  have l:s.cells.take 9=s.cells:=rfl
  have b:StV.zero.drop 9=[]:=rfl
  have j:StV.zero.length=9:=rfl
  simp only [w,B,q,d,p,l,b,j,List.append_nil,Y6,Zk,ZJ,WH,go_sem]
  exact ⟨rfl,Keep.set ((Keep.app Keep.refl).trans u fun _ _ h=>h) fun h=>by omega⟩
theorem z0e (b:E.P=Tryz.prog) {s:StV} (hs:s.ok):zD E 132 [.isl s.bytes] (.tup [.agg s.icells,.int .i64 0,.int .i64 0]):=by
 refine zU (R:=fun r L'=>r=.tup [.agg s.cells,.int .i64 0,.int .i64 0]/\Keep none' [] L') (Vt b hs) ?_
 rintro r L' ⟨rfl,d⟩
 exact ⟨d,_,rfl,rfl⟩
def q64 : XC :=(sO [oO 4 (.alloc [(.str []),(.str []),(.str []),(.str []),(.int .i64 0),(.str []),.nsl,.nsl,(.int .i64 0)]),oV 5 (.bool false)] (sO [oM 14 0,oM 15 1,oC 16 32 [.t 14,.t 15],oM 13 16,oX 17 0 13,oX 18 1 13,oM 6 17,oM 7 18] (.seq (sO [oM 19 7,oO 20 (.un .not (.t 19))] (cT 20 (sO [oO 21 (.build [(.str []),(.str []),(.str []),(.str []),(.int .i64 0),(.str []),.nsl,.nsl,(.int .i64 0)] []),oU (.store 9 (.t 4) (.t 21)),oV 5 (.bool false)] .ret) .skip)) (.seq (.drawE [oM 23 0,oN 24 23,oF 25 0 24,oL 26 25,oM 27 6,oQ 28 45 [.t 27],oC 29 122 [.t 26,.t 28],oM 22 29,oX 30 0 22,oX 31 1 22,oM 8 30,oM 9 31]) (sO [oM 33 8,oO 34 (.ex (.strB 5) [.t 33]),oC 35 132 [.t 34],oM 32 35,oX 36 0 32,oX 37 1 32,oX 38 2 32,oO 10 (.alloc [(.str []),(.str []),(.str []),(.str []),(.int .i64 0),(.str []),.nsl,.nsl,(.int .i64 0)]),oU (.store 9 (.t 10) (.t 36)),oM 11 37,oM 12 38] (sO [oO 39 (.loadN 9 (.t 10)),oU (.store 9 (.t 4) (.t 39)),oV 5 (.bool true)] .ret))))))
def q38 : XC :=(sO [oO 5 (.box (.t 1)),oI 8 0] (sO [oM 12 0,oF 13 0 5,oL 14 13,oC 15 64 [.t 12,.t 14],oM 11 15,oX 16 0 11,oX 17 1 11,oO 9 (.alloc [(.str []),(.str []),(.str []),(.str []),(.int .i64 0),(.str []),.nsl,.nsl,(.int .i64 0)]),oU (.store 9 (.t 9) (.t 16)),oM 10 17] (.seq (.block 0 (.seq (.drawE [oF 19 8 9,oL 20 19,oF 21 1 5,oL 22 21,oB 23 .neq 20 22,oM 24 23,oG 25 24 false (.fldA 3 (.t 5)),oG 26 24 false (.fldA 8 (.t 25)),oG 27 24 false (.load1 (.t 26)),oG 28 24 false (.fldA 1 (.t 5)),oG 29 24 false (.load1 (.t 28)),oG 30 24 false (.fldA 2 (.t 5)),oG 31 24 false (.load1 (.t 30)),oG 32 24 false (.len (.t 31)),oG 33 24 false (.bin .add (.t 29) (.t 32)),oG 34 24 false (.bin .neq (.t 27) (.t 33)),oO 35 (.pick (.t 24) (.c (.bool true)) (.t 34)),oM 36 35,oG 37 36 false (.fldA 16 (.t 5)),oG 38 36 false (.load1 (.t 37)),oG 39 36 false (.bin .gtr (.t 38) (oi 0)),oG 40 36 false (.mov (.t 39)),oG 41 40 true (.fldA 16 (.t 5)),oG 42 40 true (.load1 (.t 41)),oG 43 40 true (.mov (.t 0)),oG 44 40 true (.fldA 15 (.t 5)),oG 45 40 true (.load1 (.t 44)),oG 46 40 true (.pcall (.f 11) [.t 43,.t 45]),oG 47 40 true (.bin .add (.t 46) (oi 1)),oG 48 40 true (.bin .neq (.t 42) (.t 47)),oG 49 36 false (.pick (.t 40) (.t 48) (.c (.bool false))),oO 50 (.pick (.t 36) (.c (.bool true)) (.t 49)),oM 18 50]) (cT 18 (sO [oI 8 14] .ret) (sO [oF 52 16 5,oL 53 52,oK 54 .gtr 53 0,oM 55 54,oG 56 55 true (.mov (.t 0)),oG 57 55 true (.fldA 15 (.t 5)),oG 58 55 true (.load1 (.t 57)),oG 59 55 true (.call (.f 25) [.t 56,.t 58]),oG 60 55 true (.un .not (.t 59)),oO 61 (.pick (.t 55) (.t 60) (.c (.bool false))),oM 62 61,oG 63 62 false (.fldA 13 (.t 5)),oG 64 62 false (.load1 (.t 63)),oG 65 62 false (.lenS (.t 64)),oG 66 62 false (.bin .gtr (.t 65) (oi 256)),oO 67 (.pick (.t 62) (.c (.bool true)) (.t 66)),oM 51 67] (cT 51 (sO [oI 8 1] .ret) (sO [oM 69 3,oO 70 (.un .not (.t 69)),oM 71 70,oG 72 71 true (.mov (.t 2)),oG 73 71 true (.bin .geq (.t 72) (oi 256)),oO 74 (.pick (.t 71) (.t 73) (.c (.bool false))),oM 68 74] (cT 68 (sO [oI 8 8] .ret) .skip))))))) (sO [oI 8 0] .ret))))
def q40 : XC :=(sO [oM 6 0,oN 7 6,oF 8 3 7,oL 9 8,oM 10 1,oY 11 10,oB 12 .add 9 11,oN 13 6,oF 14 3 13,oS 14 12] (.ops [oM 15 0,oM 16 0,oN 17 16,oF 18 4 17,oL 19 18,oM 20 19,oG 21 20 false (.mov (.t 2)),oG 22 20 false (.bin .neq (.t 21) (oi 0)),oO 23 (.pick (.t 20) (.c (.bool true)) (.t 22)),oN 24 15,oF 25 4 24,oS 25 23]))
def q9 : XC :=(sO [oV 4 .nsl] (sO [oM 14 0,oM 15 1,oC 16 32 [.t 14,.t 15],oM 13 16,oX 17 0 13,oX 18 1 13,oM 5 17,oM 6 18] (.seq (sO [oM 19 6,oO 20 (.un .not (.t 19))] (cT 20 (sO [oV 4 .nsl] .ret) .skip)) (sO [oV 7 .nsl] (.seq (.seq (.drawE [oM 21 0,oN 22 21,oF 23 0 22,oL 24 23,oM 25 5,oQ 26 34 [.t 25],oC 27 33 [.t 24,.t 26,(oi 2147483648)],oY 28 27,oI 29 0]) (.block 0 (.loop (sO [oB 30 .lss 29 28] (.seq (cT 30 .skip (.exit 0)) (.seq (.block 1 (sO [oO 31 (.idxS 2 (.t 27) (.t 29)),oO 32 (.loadN 2 (.t 31)),oO 9 (.alloc [(.str []),(.str [])]),oU (.store 2 (.t 9) (.t 32))] (sO [oF 34 1 9,oL 35 34,oO 36 (.ex (.strB 5) [.t 35]),oC 37 35 [.t 36],oM 33 37,oX 38 0 33,oX 39 1 33,oX 40 2 33,oO 10 (.alloc [(.int .i64 0),(.str []),(.str []),(.int .i64 0)]),oU (.store 4 (.t 10) (.t 38)),oM 11 39,oM 12 40] (.ops [oM 41 7,oO 42 (.loadN 4 (.t 10)),oO 43 (.bslice 4 [(.int .i64 0),(.str []),(.str []),(.int .i64 0)] 1 [(0,(.t 42))]),oO 44 (.append 4 48 (.t 41) (.t 43)),oM 7 44])))) (.ops [oK 45 .add 29 1,oM 29 45]))))))) (sO [oM 46 7,oM 4 46] .ret))))))
theorem Y9 {s:List UInt8} (h:s.length<=1048576):Plain (zH s):=(yD od).app ⟨_,YK s⟩
theorem StV.ok.plain {s:StV} (h:s.ok):Plain s.bytes:=by
 obtain ⟨q,m,r,j,u,l,d⟩:=h
 have b:=fun (x:List UInt8) (p:x.length<=100000)=>Y9 (s:=x) od
 have np:=fun (x:Nat) (p:x<=4503599627370496)=>yD (n:=x) od
 unfold StV.bytes
 refine ((((Plain.app ?_ (np _ od)).app (b _ l)).app (np _ od)).app (np _ od)).app (np _ d)
 simp only [List.flatMap_cons,List.flatMap_nil,List.append_nil]
 exact (b _ q).app ((b _ m).app ((b _ r).app (b _ j)))
theorem StV.ok.bytes_le {s:StV} (h:s.ok):s.bytes.length<=600000:=by
 obtain ⟨u,m,l,q,A,j,p⟩:=h
 have b:=fun x (r:List.length x<=100000)=>zZ x od
 have d:=fun x (r:x<=4503599627370496)=>(show (zL x).length<=8 by have:=zM x;have:=Zj (n:=x) (k:=7) (by omega);omega)
 have t1:=b s.dfn u
 have t2:=b s.id m
 have G:=b s.par l
 have D:=b s.pn q
 have w:=b s.txt j
 have B:=d s.st od
 have v:=d s.ev p
 have n0:=d 0 od
 simp only [StV.bytes,lla,List.flatMap_cons,List.flatMap_nil,lln]
 omega
def Vl:StV:=⟨[],[],[],[],0,[],0⟩
def faa:List UInt8:=[102,97,97]
def YH (d:KV):Option StV->Prop
 | none=>d.scan [110,47] [110,48]=[]
 | some s=>d.scan [110,47] [110,48]=[([110,47,48,48,48],faa)]/\d.get [115,47,48,48,48]=some (strOf s.bytes)/\s.ok
theorem YH.num {d:KV} {kn:Option StV} (h:YH d kn):jK (d.scan [110,47] [110,48]) faa=0/\decide (0<(d.scan [110,47] [110,48]).length)=kn.isSome:=by
 cases kn with
 | none=>
  rw [show d.scan [110,47] [110,48]=[] from h]
  exact ⟨rfl,rfl⟩
 | some s=>
  rw [show d.scan [110,47] [110,48]=_ from h.1]
  refine ⟨?_,rfl⟩
  simp [jK]
theorem YS (l:E.P=Tryz.prog) {x s N:Nat} {F:Nat->Prop} {b:Int} {d:KV} {kn:Option StV} (p:L[x]?=some (exB s)) (h:zl L s F N b d) (m:d.length<=900000) (j:YH d kn) :
  XT E 32 [.ptr x 0 0,.str faa] L fun r L'=>r=.tup [.int .i64 0,.bool kn.isSome]/\L'=L:=by
 have:=z6S (name:=faa) l p h m
 rw [j.num.1] at this
 rw [j.num.2] at this
 exact this
theorem zdy (q:E.P=Tryz.prog) {x s N:Nat} {F:Nat->Prop} {j:Int} {d:KV} {kn:Option StV} (X:L[x]?=some (exB s)) (h:zl L s F N j d) (hN:d.length<=900000) (w:YH d kn) :
  XT E 64 [.ptr x 0 0,.str faa] L fun r L'=>r=.tup [.agg (kn.getD Vl).icells,.bool kn.isSome]/\L'=L:=by
 refine zU (R:=fun r L'=>∃cs,r=.tup [.agg cs,.bool kn.isSome]/\(cs=(kn.getD Vl).icells\/cs=[.str [],.str [],.str [],.str [],.int .i64 0,.str [],.nsl,.nsl,.int .i64 0]/\kn=none)/\Keep none' L L') ?_ ?_
 ·skip
  have lx:=zg X
  refine xt2 (fn:=Tryz.f64) (rs:=[.cellN 4 9,.tmp 5]) (c:=q64) q fun ρ U h1=>?_
  unfold q64
  simp (maxDischargeDepth:=12) only [U,h1,go_sem]
  have v:Keep none' L (L++[Blk.cells 9 [[.str [],.str [],.str [],.str [],.int .i64 0,.str [],.nsl,.nsl,.int .i64 0]]]):=Keep.app Keep.refl
  obtain ⟨J,u⟩:∃J,L.length=J:=⟨_,rfl⟩
  have O:(L++[Blk.cells 9 [[.str [],.str [],.str [],.str [],.int .i64 0,.str [],.nsl,.nsl,.int .i64 0]]])[J]?=some (.cells 9 [[.str [],.str [],.str [],.str [],.int .i64 0,.str [],.nsl,.nsl,.int .i64 0]]):=by rw [<-u];simp
  rw [u]
  generalize L++[Blk.cells 9 [[.str [],.str [],.str [],.str [],.int .i64 0,.str [],.nsl,.nsl,.int .i64 0]]]=LA at *
  have l:=v.get X fun h=>h
  have p:zl LA s F N j d:=h.keep v fun _ _ h=>h
  have ae:=zg l
  have S:=zg O
  refine zh (YS (E:=E.noPan) q l p hN w) ?_
  rintro r L' ⟨rfl,rfl⟩
  cases kn with
  | none=>
   have e1:(none:Option StV).isSome=false:=rfl
   simp (maxDischargeDepth:=12) only [e1,O,S,Y6,Zk,ZJ,WH,go_sem]
   refine ⟨_,rfl,.inr rfl,Keep.set v fun h=>by omega⟩
  | some b=>
   have e1:(some b).isSome=true:=rfl
   have Y:_=_:=w.1
   have D:_=_:=w.2.1
   have m:b.ok:=w.2.2
   have T:=m.plain
   have af:=m.bytes_le
   unfold exB at l
   simp (maxDischargeDepth:=12) only [U,e1,l,go_sem]
   refine zY (args':=[.int .i64 0]) rfl (Yc (E:=E.noPan) q) (fun _=>rfl) ?_
   simp (maxDischargeDepth:=12) only [go_sem]
   refine zh (z2G (E:=E.noPan) q p _) ?_
   rintro r L1 ⟨rfl,rfl⟩
   unfold zbb
   rw [D]
   have Z:(some (strOf b.bytes)).getD []=strOf b.bytes:=rfl
   have f1:((strOf b.bytes).length<=9223372036854775807)=True:=eq_true (by rw [T.len];omega)
   simp (maxDischargeDepth:=12) only [Z,f1,go_sem]
   refine Yr (args':=[.isl b.bytes]) ?_ (z0e (E:=E.noPan) q m) rfl rfl ?_
   ·rw [WB rfl,T.rows]
   have Q:cellsOf (.agg b.icells)=b.icells:=rfl
   have B:b.icells.length=9:=rfl
   have M:b.icells.all zG=true:=rfl
   have I:b.icells.take 9=b.icells:=rfl
   have A:List.drop 9 ([.str [],.str [],.str [],.str [],.int .i64 0,.str [],.nsl,.nsl,.int .i64 0]:List IV)=[]:=rfl
   have G:List.length ([.str [],.str [],.str [],.str [],.int .i64 0,.str [],.nsl,.nsl,.int .i64 0]:List IV)=9:=rfl
   simp (maxDischargeDepth:=12) only [O,S,Q,B,M,I,A,G,List.append_nil,Y6,Zk,ZJ,WH,go_sem]
   exact ⟨_,rfl,.inl rfl,Keep.set (Keep.app (Keep.app v)) fun h=>by omega⟩
 ·rintro r L' ⟨cs,rfl,hc | ⟨hc,rfl⟩,V⟩
  ·subst hc;exact ⟨V,_,rfl,rfl⟩
  ·subst hc;exact ⟨V,_,rfl,rfl⟩
def z2s (ex:Nat) (ev:IV) (st:StV) (tk:IV) (req ans:List UInt8) (src seq:Nat):List IV:=
 [.str faa,.int .i64 ex,ev,.str st.dfn,.str st.id,.str st.par,.str st.pn,.int .i64 st.st,.str st.txt,.nsl,.nsl,.int .i64 st.ev,tk,.str req,.str ans,.int .i64 src,.int .i64 seq]
def zjj (d:KV) (src seq:Nat):Prop:=seq=0\/src<3/\∃m,z8E d (ze5 src) m/\seq=m+1
theorem zaB (Q:E.P=Tryz.prog) {x s N:Nat} {F:Nat->Prop} {b:Int} {d:KV} {kn:Option StV} {st:StV} {ev tk:IV} {ne ex src seq:Nat} {req ans:List UInt8} (hx:L[x]?=some (exB s)) (h:zl L s F N b d) (hN:d.length<=900000) (hf:YH d kn)
  (M:lenOf ev=some ne) (ag:zG ev=true) (ai:zG tk=true) (A:(kn.getD Vl).ev=ex) (J:st.ev=ex+ne) (hsz:ex+ne<=4503599627370496) (hr:req.length<=256) (hq:zjj d src seq) :
  XT E 38 [.ptr x 0 0,.agg (z2s ex ev st tk req ans src seq),.int .i64 0,.bool kn.isSome] L fun r L'=>r=.int .i64 0/\L'=L:=by
 refine zU (R:=fun r L'=>r=.int .i64 0/\Keep none' L L') ?_ ?_
 ·skip
  refine xt4 (fn:=Tryz.f38) (rs:=[.tmp 8]) (c:=q38) Q fun ρ Y h1 h2 h3=>?_
  unfold q38
  have ae:cellsOf (.agg [.str faa,.int .i64 ex,ev,.str st.dfn,.str st.id,.str st.par,.str st.pn,.int .i64 st.st,.str st.txt,.nsl,.nsl,.int .i64 st.ev,tk,.str req,.str ans,.int .i64 src,.int .i64 seq])=[.str faa,.int .i64 ex,ev,.str st.dfn,.str st.id,.str st.par,.str st.pn,.int .i64 st.st,.str st.txt,.nsl,.nsl,.int .i64 st.ev,tk,.str req,.str ans,.int .i64 src,.int .i64 seq]:=rfl
  unfold z2s at h1
  simp only [Y,h1,ae,go_sem]
  obtain ⟨u,hu⟩:∃u,L.length=u:=⟨_,rfl⟩
  have V:Keep none' L (L++[Blk.cells 17 [[.str faa,.int .i64 ex,ev,.str st.dfn,.str st.id,.str st.par,.str st.pn,.int .i64 st.st,.str st.txt,.nsl,.nsl,.int .i64 st.ev,tk,.str req,.str ans,.int .i64 src,.int .i64 seq]]]):=Keep.app Keep.refl
  have O:(L++[Blk.cells 17 [[.str faa,.int .i64 ex,ev,.str st.dfn,.str st.id,.str st.par,.str st.pn,.int .i64 st.st,.str st.txt,.nsl,.nsl,.int .i64 st.ev,tk,.str req,.str ans,.int .i64 src,.int .i64 seq]]])[u]?=some (.cells 17 [[.str faa,.int .i64 ex,ev,.str st.dfn,.str st.id,.str st.par,.str st.pn,.int .i64 st.st,.str st.txt,.nsl,.nsl,.int .i64 st.ev,tk,.str req,.str ans,.int .i64 src,.int .i64 seq]]):=by rw [<-hu];simp
  rw [hu]
  generalize L++[Blk.cells 17 [[.str faa,.int .i64 ex,ev,.str st.dfn,.str st.id,.str st.par,.str st.pn,.int .i64 st.st,.str st.txt,.nsl,.nsl,.int .i64 st.ev,tk,.str req,.str ans,.int .i64 src,.int .i64 seq]]]=LA at *
  have B:=V.get hx fun h=>h
  have X:zl LA s F N b d:=h.keep V fun _ _ h=>h
  have aj:=zg B
  have T:=zg O
  refine zh (zdy (E:=E.noPan) Q B X hN hf) ?_
  rintro r L' ⟨rfl,rfl⟩
  have q:∀j:StV,cellsOf (.agg j.icells)=j.icells:=fun _=>rfl
  have I:∀j:StV,j.icells.length=9:=fun _=>rfl
  have D:∀j:StV,j.icells.all zG=true:=fun _=>rfl
  have ah:∀j:StV,j.icells.take 9=j.icells:=fun _=>rfl
  have G:List.drop 9 ([.str [],.str [],.str [],.str [],.int .i64 0,.str [],.nsl,.nsl,.int .i64 0]:List IV)=[]:=rfl
  have w:List.length ([.str [],.str [],.str [],.str [],.int .i64 0,.str [],.nsl,.nsl,.int .i64 0]:List IV)=9:=rfl
  have h8:∀j:StV,j.icells.getD 8 .und=.int .i64 j.ev:=fun _=>rfl
  have w1:IntKind.i64.wrap ((ex:Int)+(ne:Int))=((ex+ne:Nat):Int):=wR
  have f2:((256:Int)<(req.length:Int))=False:=fO
  have S:Keep none' L (L'++[Blk.cells 9 [(kn.getD Vl).icells]]):=Keep.app V
  have v:=S.get hx fun h=>h
  have U:zl (L'++[Blk.cells 9 [(kn.getD Vl).icells]]) s F N b d:=h.keep S fun _ _ h=>h
  have af:(!kn.isSome&&decide ((256:Int)<=0))=false:=by simp
  rcases hq with rfl | ⟨p,m,hm,rfl⟩
  ·rcases Bool.eq_false_or_eq_true kn.isSome with l | l<;>
   ·simp only [h2,h3,l,O,T,q,I,D,G,w,h8,List.append_nil,A,J,zt M,w1,f2,Int.natCast_zero,go_sem]
    exact S
  ·have Z:((0:Int)<((m+1:Nat):Int))=True:=tO
   have w2:IntKind.i64.wrap ((m:Int)+1)=((m+1:Nat):Int):=by have:=hm.2;rw [wrap64 od od];rfl
   simp only [Y,O,T,q,I,D,G,w,h8,List.append_nil,A,J,zt M,w1,Z,go_sem]
   refine Zp (E:=E.noPan) (.int .i64 m) rfl (fun L2 ha=>zaJ (by exact Q) ((zS ha).get v fun h=>h) (U.keep (zS ha) fun _ _ h=>h) p hm) ?_
   simp only [Y,O,T,w2,Z,go_sem]
   refine zh (J9 (E:=E.noPan) Q v p) ?_
   rintro r L2 ⟨rfl,rfl⟩
   rcases Bool.eq_false_or_eq_true kn.isSome with l | l<;>
   ·simp only [h2,h3,l,O,T,w2,f2,Z,go_sem]
    exact S
 ·rintro r L' ⟨rfl,hk⟩
  exact ⟨hk,_,rfl,rfl⟩
theorem z5W (G:E.P=Tryz.prog) {b x n:Nat} {l:List OpV} {sz:Int} {F:Nat->Prop} {w:IV} (h:ZF L b x l sz F) (B:lenOf w=some n) (s:0<=sz) (h1:sz+n<=1000000000) :
  XT E 40 [.ptr b 0 0,w,.int .i64 0] L fun r L'=>r=.tup []/\ZF L' b x l (sz+n) F/\Keep F L L'/\L'.length=L.length:=by
 have D:IntKind.i64.wrap (sz+(n:Int))=sz+n:=by rw [wrap64 od od]
 obtain ⟨v,m,p,u,q,rfl⟩:=h
 have I:=zg p
 clear s h1
 refine xt3 (fn:=Tryz.f40) (rs:=[]) (c:=q40) G fun ρ s h1 h2=>?_
 unfold q40
 simp only [s,h1,h2,p,I,zt B,D,go_sem]
 have j:¬b=m:=fun h=>by subst h;rw [p] at u;simp at u
 refine ⟨⟨v,m,?_,?_,?_,rfl⟩,Keep.set (Keep.set Keep.refl fun _=>.inl rfl) fun _=>.inl rfl⟩
 ·rw [List.getElem?_set_self (by rw [lls];exact zf p)]
 ·rw [List.getElem?_set_ne j,List.getElem?_set_ne j];exact u
 ·rcases q with q | ⟨g,rfl,hg,A⟩
  ·exact .inl q
  ·have d:¬b=g:=fun h=>by subst h;rw [p] at hg;simp at hg
   exact .inr ⟨g,rfl,by rw [List.getElem?_set_ne d,List.getElem?_set_ne d];exact hg,A⟩
def zgN : XC :=(sO [oV 2 .nsl] (.seq (sO [oM 3 0,oO 4 (.isNil 0 false (.t 3))] (cT 4 (sO [oV 2 .nsl] .ret) .skip)) (sO [oO 5 (.bslice 13 [(.int .i64 0),(.raw (.complex .f64 0 0)),(.str []),(.str []),(.int .i64 0),(.int .i64 0),(.int .i64 0),(.str []),(.str []),(.str []),(.str []),(.str []),(.int .i64 0)] 0 []),oM 6 0,oO 7 (.append 13 168 (.t 5) (.t 6)),oM 2 7] .ret)))
def q47 : XC :=(sO [oV 6 .nsl,oI 7 0] (sO [oM 15 2,oC 16 111 [.t 15],oM 8 16] (.seq (sO [oM 17 8,oY 18 17,oI 19 0] (.block 0 (.loop (sO [oB 20 .lss 19 18] (.seq (cT 20 .skip (.exit 0)) (.seq (.block 1 (sO [oM 21 19,oM 9 21] (sO [oM 22 8,oM 23 9,oO 24 (.idxS 13 (.t 22) (.t 23)),oM 10 24] (.seq (sO [oM 25 10,oN 26 25,oF 27 0 26,oL 28 27,oK 29 .eql 28 3] (cT 29 (.exit 1) .skip)) (sO [oM 31 1,oC 32 112 [.t 31],oM 30 32,oX 33 0 30,oX 34 1 30,oM 11 33,oM 12 34] (.seq (sO [oM 35 12,oK 36 .neq 35 0] (cT 36 (sO [oM 37 12,oV 6 .nsl,oM 7 37] .ret) .skip)) (sO [oM 38 10,oM 39 11,oN 40 38,oF 41 1 40,oS 41 39] (sO [oM 43 10,oN 44 43,oO 45 (.loadN 13 (.t 44)),oC 46 46 [.t 45],oM 42 46,oX 47 0 42,oX 48 1 42,oM 13 47,oM 14 48] (sO [oM 49 10,oN 50 49,oF 51 0 50,oL 52 51,oK 53 .eql 52 1] (cT 53 (.ops [oM 54 0,oM 55 10,oN 56 55,oF 57 1 56,oL 58 57,oC 59 113 [.t 58],oM 60 13,oC 61 41 [.t 54,.t 59,.t 60]]) (.ops [oM 62 0,oM 63 10,oN 64 63,oO 65 (.loadN 13 (.t 64)),oC 66 114 [.t 65],oM 67 13,oC 68 41 [.t 62,.t 66,.t 67]]))))))))))) (.ops [oK 69 .add 19 1,oM 19 69]))))))) (sO [oM 70 8,oM 6 70,oI 7 0] .ret))))
def q10 : XC :=(sO [oO 5 (.box (.t 2)),oV 6 .nsl,oI 7 0] (.seq (sO [oM 25 0,oM 26 1,oC 27 24 [.t 25,.t 26],oM 8 27] (sO [oM 28 8,oK 29 .neq 28 0] (cT 29 (sO [oM 30 8,oV 6 .nsl,oM 7 30] .ret) .skip))) (.seq (.seq (.drawE [oF 31 0 5,oL 32 31,oQ 33 36 [.t 32],oO 34 (.un .not (.t 33)),oM 35 34,oG 36 35 false (.fldA 0 (.t 5)),oG 37 35 false (.load1 (.t 36)),oG 38 35 false (.mov (.t 0)),oG 39 35 false (.nilck (.t 38)),oG 40 35 false (.fldA 1 (.t 39)),oG 41 35 false (.load1 (.t 40)),oG 42 35 false (.pcall (.f 37) [.t 37,.t 41]),oG 43 35 false (.mov (.t 0)),oG 44 35 false (.nilck (.t 43)),oG 45 35 false (.fldA 2 (.t 44)),oG 46 35 false (.load1 (.t 45)),oG 47 35 false (.bin .neq (.t 42) (.t 46)),oO 48 (.pick (.t 35) (.c (.bool true)) (.t 47))]) (cT 48 (sO [oV 6 .nsl,oI 7 17] .ret) .skip)) (sO [oM 50 0,oF 51 0 5,oL 52 51,oC 53 32 [.t 50,.t 52],oM 49 53,oX 54 0 49,oX 55 1 49,oM 9 54,oM 10 55] (.seq (sO [oM 56 0,oO 57 (.loadN 17 (.t 5)),oM 58 9,oM 59 10,oC 60 38 [.t 56,.t 57,.t 58,.t 59],oM 11 60] (sO [oM 61 11,oK 62 .neq 61 0] (cT 62 (sO [oM 63 11,oV 6 .nsl,oM 7 63] .ret) .skip))) (sO [oM 64 0,oC 65 26 [.t 64],oM 12 65] (.seq (sO [oF 66 2 5,oL 67 66,oY 68 67,oI 69 0] (.block 0 (.loop (sO [oB 70 .lss 69 68] (.seq (cT 70 .skip (.exit 0)) (.seq (.block 1 (sO [oM 71 69,oO 72 (.idxS 4 (.t 67) (.t 69)),oO 73 (.loadN 4 (.t 72)),oO 14 (.alloc [(.int .i64 0),(.str []),(.str []),(.int .i64 0)]),oM 13 71,oU (.store 4 (.t 14) (.t 73))] (sO [oO 75 (.loadN 4 (.t 14)),oC 76 39 [.t 75],oM 74 76,oX 77 0 74,oX 78 1 74,oM 15 77,oM 16 78] (sO [oM 79 12,oM 80 15,oM 81 16,oC 82 40 [.t 79,.t 80,.t 81]] (.ops [oM 83 12,oM 84 9,oF 85 1 5,oL 86 85,oM 87 13,oB 88 .add 86 87,oC 89 42 [.t 84,.t 88],oM 90 15,oC 91 41 [.t 83,.t 89,.t 90]]))))) (.ops [oK 92 .add 69 1,oM 69 92]))))))) (sO [oF 94 3 5,oO 95 (.loadN 9 (.t 94)),oC 96 43 [.t 95],oM 93 96,oX 97 0 93,oX 98 1 93,oM 17 97,oM 18 98] (sO [oM 99 12,oM 100 17,oM 101 18,oC 102 40 [.t 99,.t 100,.t 101]] (.seq (.drawE [oM 103 12,oM 104 9,oQ 105 44 [.t 104],oF 106 0 5,oL 107 106,oO 108 (.ex (.strB 5) [.t 107]),oC 109 41 [.t 103,.t 105,.t 108]]) (sO [oM 110 12,oM 111 9,oC 112 45 [.t 111],oM 113 17,oC 114 41 [.t 110,.t 112,.t 113]] (.seq (sO [oF 115 12 5,oL 116 115,oY 117 116,oI 118 0] (.block 2 (.loop (sO [oB 119 .lss 118 117] (.seq (cT 119 .skip (.exit 2)) (.seq (.block 3 (sO [oO 120 (.idxS 13 (.t 116) (.t 118)),oO 121 (.loadN 13 (.t 120)),oO 20 (.alloc [(.int .i64 0),(.raw (.complex .f64 0 0)),(.str []),(.str []),(.int .i64 0),(.int .i64 0),(.int .i64 0),(.str []),(.str []),(.str []),(.str []),(.str []),(.int .i64 0)]),oU (.store 13 (.t 20) (.t 121))] (sO [oO 123 (.loadN 13 (.t 20)),oC 124 46 [.t 123],oM 122 124,oX 125 0 122,oX 126 1 122,oM 21 125,oM 22 126] (sO [oM 127 12,oM 128 21,oM 129 22,oC 130 40 [.t 127,.t 128,.t 129]] (sO [oF 131 0 20,oL 132 131,oK 133 .eql 132 3] (cT 133 (.ops [oM 134 12,oF 135 6 20,oO 136 (.loadN 7 (.t 135)),oC 137 29 [.t 134,.t 136]]) .skip)))))) (.ops [oK 138 .add 118 1,oM 118 138]))))))) (.seq (sO [oM 139 12,oN 140 139,oF 141 4 140,oL 142 141,oM 143 142,oG 144 143 false (.mov (.t 12)),oG 145 143 false (.nilck (.t 144)),oG 146 143 false (.fldA 3 (.t 145)),oG 147 143 false (.load1 (.t 146)),oG 148 143 false (.bin .gtr (.t 147) (oi 65000)),oO 149 (.pick (.t 143) (.c (.bool true)) (.t 148)),oM 150 149,oG 151 150 false (.fldA 14 (.t 5)),oG 152 150 false (.load1 (.t 151)),oG 153 150 false (.lenS (.t 152)),oG 154 150 false (.bin .gtr (.t 153) (oi 4096)),oO 155 (.pick (.t 150) (.c (.bool true)) (.t 154))] (cT 155 (sO [oV 6 .nsl,oI 7 2] .ret) .skip)) (sO [oM 157 12,oM 158 1,oF 159 12 5,oL 160 159,oC 161 47 [.t 157,.t 158,.t 160],oM 156 161,oX 162 0 156,oX 163 1 156,oM 23 162,oM 18 163] (.seq (sO [oM 164 18,oK 165 .neq 164 0] (cT 165 (sO [oM 166 18,oV 6 .nsl,oM 7 166] .ret) .skip)) (.seq (sO [oF 167 16 5,oL 168 167,oK 169 .gtr 168 0] (cT 169 (.drawE [oM 170 12,oF 171 15 5,oL 172 171,oQ 173 28 [.t 172],oF 174 16 5,oL 175 174,oC 176 27 [.t 170,.t 173,.t 175]]) .skip)) (.seq (sO [oF 177 13 5,oL 178 177,oO 179 (.bin .neq (.t 178) (.c (.str [])))] (cT 179 (.ops [oM 180 12,oM 181 9,oF 182 13 5,oL 183 182,oF 184 14 5,oL 185 184,oC 186 48 [.t 180,.t 181,.t 183,.t 185]]) .skip)) (.seq (sO [oM 187 1,oM 188 12,oN 189 188,oF 190 1 189,oL 191 190,oC 192 30 [.t 187,.t 191],oM 24 192] (sO [oM 193 24,oK 194 .neq 193 0] (cT 194 (sO [oM 195 24,oV 6 .nsl,oM 7 195] .ret) .skip))) (sO [oM 196 23,oM 6 196,oI 7 0] .ret)))))))))))))))))))
def Yg (L0 L:List Blk) (b x:Nat) (l:List OpV) (sz:Int):Prop:=∃F,ZF L b x l sz F/\(∀u,F u->L0.length<=u)/\Keep none' L0 L
theorem Yg.step {L0 L':List Blk} {b x:Nat} {l:List OpV} {d:Int} {F F':Nat->Prop} (h:∀u,F u->L0.length<=u) (j:Keep none' L0 L) (r:ZF L' b x l d F') (hG:Grown F F' L L') (m:Keep F L L'):Yg L0 L' b x l d:=by
 refine ⟨F',r,fun u q=>?_,j.trans m fun t s p=>?_⟩
 ·rcases hG u q with h1 | ⟨h1,_⟩
  ·exact h u h1
  ·exact Nat.le_trans j.1 h1
 ·have:=h t p;omega
theorem Yg.keep {L0 L':List Blk} {b x:Nat} {l:List OpV} {sz:Int} (h:Yg L0 L b x l sz) (d:Keep none' L L'):Yg L0 L' b x l sz:=by
 obtain ⟨F,h1,h2,j⟩:=h
 exact ⟨F,h1.keep d fun _ _ h=>h,h2,j.trans d fun _ _ h=>h⟩
theorem Yg.get {L0:List Blk} {b x t:Nat} {l:List OpV} {sz:Int} {k:Blk} (h:Yg L0 L b x l sz) (j:L0[t]?=some k):L[t]?=some k:=by
 obtain ⟨F,_,_,d⟩:=h
 exact d.get j fun h=>h
theorem VS (u:E.P=Tryz.prog) {L0:List Blk} {b x:Nat} {l:List OpV} {sz:Int} {k s:List UInt8} {w:IV} (h:Yg L0 L b x l sz) (p:∀M,Keep none' L M->(yG M w).bind (zJ byteOf)=some s) (v:l.length<=100000) :
  XT E 41 [.ptr b 0 0,.str k,w] L fun r L'=>r=.tup []/\Yg L0 L' b x (l++[⟨k,s,false⟩]) sz:=by
 obtain ⟨F,h1,h2,q⟩:=h
 refine (z4I u h1 p v).mono ?_
 rintro r L' ⟨rfl,⟨F',j,m⟩,d⟩
 exact ⟨rfl,Yg.step h2 q j m d⟩
theorem z1I (s:E.P=Tryz.prog) {L0:List Blk} {b x n:Nat} {l:List OpV} {sz:Int} {w:IV} (h:Yg L0 L b x l sz) (q:lenOf w=some n) (u:0<=sz) (h1:sz+n<=1000000000) :
  XT E 40 [.ptr b 0 0,w,.int .i64 0] L fun r L'=>r=.tup []/\Yg L0 L' b x l (sz+n):=by
 obtain ⟨F,j,p,d⟩:=h
 refine (z5W s j q u h1).mono ?_
 rintro r L' ⟨rfl,e1,m,v⟩
 exact ⟨rfl,Yg.step p d e1 Grown.refl m⟩
theorem z6B (d:E.P=Tryz.prog) {x:Nat}:XT E 26 [.ptr x 0 0] L fun r L'=>∃b,r=.ptr b 0 0/\Yg L L' b x [] 0:=by
 refine (zbJ d).mono ?_
 rintro r L' ⟨b,rfl,⟨F,h1,h2⟩,h⟩
 exact ⟨b,rfl,F,h1,fun u j=>(h2 u j).1,h⟩
theorem z2x (M:List Blk) (g:Nat) (h:M[g]?=some (.tcells 5 1 (zk faa))):(yG M (.sl g 0 faa.length faa.length)).bind (zJ byteOf)=some faa:=by
 show (rowsOf M (.sl g 0 faa.length faa.length)).bind (zJ byteOf)=some faa
 rw [wL h (by simp [zk])]
 exact YK faa
def q39 : XC :=(sO [oO 1 (.box (.t 0)),oV 2 .nsl,oI 3 0] (sO [oO 4 (.mkfn (.func 101) [] [.t 1]),oC 5 100 [.t 4],oX 6 0 5,oX 7 1 5,oM 2 6,oM 3 7] .ret))
def zmk : XC :=(sO [oM 3 0,oF 4 0 1,oL 5 4,oC 6 102 [.t 3,.t 5,(oi 1),(oi 15)]] (sO [oM 7 0,oF 8 1 1,oL 9 8,oF 10 2 1,oL 11 10,oO 12 (.bslice 1 [(.str [])] 2 [(0,(.t 9)),(1,(.t 11))]),oC 13 103 [.t 7,.t 12]] (.ops [oM 14 0,oF 15 3 1,oL 16 15,oC 17 104 [.t 14,.t 16]])))
def q46 : XC :=(sO [oO 1 (.box (.t 0)),oV 2 .nsl,oI 3 0] (sO [oO 4 (.mkfn (.func 108) [] [.t 1]),oC 5 100 [.t 4],oX 6 0 5,oX 7 1 5,oM 2 6,oM 3 7] .ret))
def zmo : XC :=(sO [oM 3 0,oF 4 0 1,oL 5 4,oC 6 102 [.t 3,.t 5,(oi 1),(oi 3)]] (sO [oM 7 0,oF 8 1 1,oL 9 8,oC 10 109 [.t 7,.t 9]] (sO [oM 11 0,oF 12 2 1,oL 13 12,oF 14 3 1,oL 15 14,oO 16 (.bslice 1 [(.str [])] 2 [(0,(.t 13)),(1,(.t 15))]),oC 17 103 [.t 11,.t 16]] (sO [oM 18 0,oF 19 4 1,oL 20 19,oC 21 107 [.t 18,.t 20]] (sO [oM 22 0,oF 23 5 1,oL 24 23,oC 25 107 [.t 22,.t 24]] (.ops [oM 26 0,oF 27 6 1,oO 28 (.loadN 7 (.t 27)),oC 29 110 [.t 26,.t 28]]))))))
def zlJ : XC :=(sO [oM 8 1,oC 9 176 [.t 8],oM 7 9,oX 10 0 7,oX 11 1 7,oX 12 2 7,oM 4 10,oM 5 11,oM 6 12] (.seq (sO [oM 13 6,oO 14 (.un .not (.t 13))] (cT 14 (.ops [oO 15 (.build [(.int .i64 0)] []),oO 16 (.ex (.mkif 274) [.t 15]),oU (.ex .panic [.t 16])]) .skip)) (sO [oM 17 0,oM 18 4,oC 19 107 [.t 17,.t 18]] (.ops [oM 20 0,oM 21 5,oC 22 107 [.t 20,.t 21]]))))
def zm3 : XC :=(sO [oO 3 (.box (.t 1))] (sO [oM 4 0,oF 5 0 3,oL 6 5,oC 7 102 [.t 4,.t 6,(oi 0),(oi 4)]] (.seq (sO [oF 8 0 3,oL 9 8,oK 10 .eql 9 0] (cT 10 (.seq (sO [oO 11 (.loadN 7 (.t 3)),oO 12 (.build [(.int .i64 0),(.str []),(.str []),(.str []),(.str []),(.str []),(.int .i64 0)] []),oO 13 (.ex (.eqA true [0,1,1,1,1,1,0]) [.t 11,.t 12])] (cT 13 (.ops [oO 14 (.build [(.int .i64 0)] []),oO 15 (.ex (.mkif 274) [.t 14]),oU (.ex .panic [.t 15])]) .skip)) .ret) .skip)) (sO [oM 16 0,oF 17 1 3,oL 18 17,oF 19 2 3,oL 20 19,oF 21 3 3,oL 22 21,oF 23 4 3,oL 24 23,oF 25 5 3,oL 26 25,oO 27 (.bslice 1 [(.str [])] 5 [(0,(.t 18)),(1,(.t 20)),(2,(.t 22)),(3,(.t 24)),(4,(.t 26))]),oC 28 103 [.t 16,.t 27]] (.ops [oM 29 0,oF 30 6 3,oL 31 30,oC 32 102 [.t 29,.t 31,(oi 0),(oi 4)]])))))
structure EvV where
 kind:Nat
 node:List UInt8
 txt:List UInt8
 num:Int
def EvV.cells (e:EvV):List IV:=[.int .i64 e.kind,.str e.node,.str e.txt,.int .i64 e.num]
def EvV.ok (e:EvV):Prop:=1<=e.kind/\e.kind<=15/\e.node.length<=100000/\e.txt.length<=100000 /\ -2251799813685248<=e.num/\e.num<=2251799813685248
def EvV.bytes (e:EvV):List (List IV):=zL e.kind++[e.node,e.txt].flatMap zH++zL (wO e.num)
theorem EvV.bytes_ne (e:EvV):e.bytes≠[]:=by simp [EvV.bytes,zL]
theorem z2S (A:E.P=Tryz.prog) {L1:List Blk} {p:Nat} {l:List (List UInt8)} {bs:List (List IV)} (h:yE L1 L p bs) (m:l.length<=1000) (hs:∀s∈l,s.length<=100000) (B:bs.length+1000000000<=70368744177664) :
  XT E 103 [.ptr p 0 0,.sl L.length 0 l.length l.length] (L++[.cells 1 (l.map fun s=>[.str s])]) fun r L'=>r=.tup []/\yE L1 L' p (bs++l.flatMap zH):=by
 obtain ⟨F,h1,h2,w⟩:=h
 have b:=h1.lt
 have k:Keep none' L (L++[Blk.cells 1 (l.map fun s=>[IV.str s])]):=Keep.app Keep.refl
 refine (z5N A (h1.keep k fun _ _ h=>h) (by simp) (fun h=>by have:=b.2.2 _ h;omega) m hs B).mono ?_
 rintro r L' ⟨rfl,⟨F',u,v⟩,q⟩
 have d:Grown (fun t=>t=p) F L1 (L++[Blk.cells 1 (l.map fun s=>[IV.str s])]):=fun t j=>by
  rcases h2 t j with h | h
  ·exact .inl h
  ·right;simp only [lla,llc,lln];omega
 exact ⟨rfl,yE.step d (Keep.app w) u v q⟩
theorem z0y (v:E.P=Tryz.prog) {L1:List Blk} {p n:Nat} {bs:List (List IV)} {b d:Int} (h:yE L1 L p bs) (h1:b<=(n:Int)) (h2:(n:Int)<=d) (j:n<256^7) (w:bs.length+100<=70368744177664) :
  XT E 102 [.ptr p 0 0,.int .i64 n,.int .i64 b,.int .i64 d] L fun r L'=>r=.tup []/\yE L1 L' p (bs++zL n):=by
 obtain ⟨F,e1,q,s⟩:=h
 refine (WU v e1 h1 h2 j w).mono ?_
 rintro r L' ⟨rfl,⟨F',m,u⟩,l⟩
 exact ⟨rfl,yE.step q s m u l⟩
theorem J4 (s:E.P=Tryz.prog) {L1:List Blk} {p n:Nat} {bs:List (List IV)} (h:yE L1 L p bs) (b:n<=4503599627370496) (u:bs.length+100<=70368744177664) :
  XT E 107 [.ptr p 0 0,.int .i64 n] L fun r L'=>r=.tup []/\yE L1 L' p (bs++zL n):=by
 obtain ⟨F,e1,l,m⟩:=h
 refine (YG s e1 b u).mono ?_
 rintro r L' ⟨rfl,⟨F',j,q⟩,d⟩
 exact ⟨rfl,yE.step l m j q d⟩
theorem z8N (u:E.P=Tryz.prog) {L1:List Blk} {p:Nat} {v:Int} {bs:List (List IV)} (h:yE L1 L p bs) (b : -2251799813685248<=v) (d:v<=2251799813685248) (w:bs.length+100<=70368744177664) :
  XT E 104 [.ptr p 0 0,.int .i64 v] L fun r L'=>r=.tup []/\yE L1 L' p (bs++zL (wO v)):=by
 obtain ⟨F,e1,m,q⟩:=h
 refine (z2I u e1 b d w).mono ?_
 rintro r L' ⟨rfl,⟨F',l,s⟩,j⟩
 exact ⟨rfl,yE.step m q l s j⟩
theorem yE.start {p:Nat} (h:yX L p (fun t=>t=p) []):yE L L p []:=⟨_,h,Grown.refl,Keep.refl⟩
theorem Z5 {n:Nat} (h:n<=4503599627370496):(zL n).length<=8:=by have:=zM n;have:=Zj (n:=n) (k:=7) (by omega);omega
theorem z2P (u:E.P=Tryz.prog) {b:Nat} {e:EvV} (D:L[b]?=some (.cells 4 [e.cells])) (S:e.ok):Writes E L 101 [.ptr b 0 0] e.bytes:=by
 intro L1 p V Z j
 obtain ⟨o1,o2,o3,o4,Q,I⟩:=S
 have d:=V.get D fun h=>h
 have U:=zg d
 have Y:=zf D
 have q:¬b=p:=by omega
 unfold EvV.cells at d
 have t1:=zZ e.node od
 have t2:=zZ e.txt od
 have n1:=Z5 (n:=e.kind) od
 have s0:=yE.start j
 refine xt2 (fn:=Tryz.f101) (rs:=[]) (c:=zmk) u fun ρ w h1=>?_
 unfold zmk
 simp only [w,h1,d,go_sem]
 refine zh (z0y (E:=E.noPan) (n:=e.kind) u s0 od od od (by simp)) ?_
 rintro r L2 ⟨rfl,B⟩
 have s:=B.get d q
 have J:=zg s
 simp only [w,h1,s,go_sem]
 refine zh (z2S (E:=E.noPan) (l:=[e.node,e.txt]) u B (by simp) (by intro x G;simp only [List.mem_cons,List.not_mem_nil,or_false] at G;rcases G with rfl | rfl<;>assumption) (by simp only [lla,lln];omega)) ?_
 rintro r L3 ⟨rfl,A⟩
 have m:=A.get d q
 have X:=zg m
 simp only [w,h1,m,go_sem]
 refine zh (z8N (E:=E.noPan) (v:=e.num) u A Q I (by simp only [lla,List.flatMap_cons,List.flatMap_nil,lln];omega)) ?_
 rintro r L4 ⟨rfl,T⟩
 simp only [go_sem]
 obtain ⟨F,O,R,M⟩:=T
 exact ⟨⟨F,by simpa [EvV.bytes] using O,R⟩,M⟩
theorem zbA (j:E.P=Tryz.prog) {e:EvV} (p:e.ok):XT E 39 [.agg e.cells] L fun r L'=>r=.tup [.isl e.bytes,.int .i64 0]/\L'=L:=by
 refine zU (R:=fun r L'=>∃v,r=.tup [v,.int .i64 0]/\zcz L L' v e.bytes/\Keep none' L L') ?_ ?_
 ·skip
  refine xt1 (fn:=Tryz.f39) (rs:=[.tmp 2,.tmp 3]) (c:=q39) j fun ρ u=>?_
  unfold q39
  have m:cellsOf (.agg e.cells)=e.cells:=rfl
  have d:e.cells.length=4:=rfl
  simp only [u,m,d,go_sem]
  refine zh (Yp (E:=E.noPan) j (z2P j (b:=L.length) (e:=e) (by simp) p) e.bytes_ne) ?_
  rintro r L' ⟨v,rfl,⟨g,rfl,hg,w,s⟩,l⟩
  simp only [go_sem]
  exact ⟨_,rfl,⟨g,rfl,by simp at hg;omega,w,s⟩,Keep.trans (Keep.app Keep.refl) l fun _ _ h=>h⟩
 ·rintro r L' ⟨v,rfl,q,l⟩
  exact ⟨l,_,by simp only [fuel,conv,zJ,wC q];rfl,rfl⟩
structure Zf where
 kind:Nat
 re:Nat
 im:Nat
 rb:Nat
 ib:Nat
 flow:List UInt8
 node:List UInt8
 try_:Nat
 at_:Nat
def Zf.cells (t:Zf):List IV:=[.int .i64 t.kind,.raw (.complex .f64 t.rb t.ib),.str t.flow,.str t.node,.int .i64 t.try_,.int .i64 t.at_,.int .i64 0,.str [],.str [],.str [],.str [],.str [],.int .i64 0]
def Zf.bytes (t:Zf):List (List IV):=zL t.kind++(zL t.re++zL t.im)++[t.flow,t.node].flatMap zH++zL t.try_++zL t.at_++zL 0
def zhh (re im rb ib:Nat):Prop:=re<=4503599627370496/\im<=4503599627370496/\∀E:Env,E.P=Tryz.prog->zD E 176 [.raw (.complex .f64 rb ib)] (.tup [.int .i64 re,.int .i64 im,.bool true])
def Zf.ok (t:Zf):Prop:=(1<=t.kind/\t.kind<=2)/\zhh t.re t.im t.rb t.ib/\t.flow.length<=100000/\t.node.length<=100000/\t.try_<=4503599627370496/\t.at_<=4503599627370496
theorem Zf.bytes_ne (t:Zf):t.bytes≠[]:=by simp [Zf.bytes,zL]
theorem ziU (b:E.P=Tryz.prog) {L1:List Blk} {p re im rb ib:Nat} {bs:List (List IV)} (h:yE L1 L p bs) (hi:zhh re im rb ib) (v:bs.length+1000<=70368744177664) :
  XT E 109 [.ptr p 0 0,.raw (.complex .f64 rb ib)] L fun r L'=>r=.tup []/\yE L1 L' p (bs++(zL re++zL im)):=by
 obtain ⟨j,q,m⟩:=hi
 have u:=Z5 j
 refine xt2 (fn:=Tryz.f109) (rs:=[]) (c:=zlJ) b fun ρ l h1=>?_
 unfold zlJ
 simp only [h1,go_sem]
 refine zi (args':=[.raw (.complex .f64 rb ib)]) rfl (m E.noPan b) rfl ?_
 simp only [l,go_sem]
 refine zh (J4 (E:=E.noPan) (n:=re) b h j od) ?_
 rintro r L2 ⟨rfl,s⟩
 simp only [l,go_sem]
 refine zh (J4 (E:=E.noPan) (n:=im) b s q (by simp only [lla];omega)) ?_
 rintro r L3 ⟨rfl,d⟩
 simp only [go_sem]
 rw [List.append_assoc] at d
 exact d
theorem z9G (s:E.P=Tryz.prog) {L1:List Blk} {p:Nat} {bs:List (List IV)} (h:yE L1 L p bs) (T:bs.length+1000<=70368744177664) :
  XT E 110 [.ptr p 0 0,.agg [.int .i64 0,.str [],.str [],.str [],.str [],.str [],.int .i64 0]] L fun r L'=>r=.tup []/\yE L1 L' p (bs++zL 0):=by
 refine xt2 (fn:=Tryz.f110) (rs:=[]) (c:=zm3) s fun ρ O h1=>?_
 unfold zm3
 have m:cellsOf (.agg [.int .i64 0,.str [],.str [],.str [],.str [],.str [],.int .i64 0])=[.int .i64 0,.str [],.str [],.str [],.str [],.str [],.int .i64 0]:=rfl
 simp only [O,h1,m,go_sem]
 have U:=h.app (k:=Blk.cells 7 [[.int .i64 0,.str [],.str [],.str [],.str [],.str [],.int .i64 0]])
 obtain ⟨b,v⟩:∃b,L.length=b:=⟨_,rfl⟩
 have B:(L++[Blk.cells 7 [[.int .i64 0,.str [],.str [],.str [],.str [],.str [],.int .i64 0]]])[b]?=some (Blk.cells 7 [[.int .i64 0,.str [],.str [],.str [],.str [],.str [],.int .i64 0]]):=by rw [<-v];simp
 rw [v]
 obtain ⟨F,u,G,M⟩:=id h
 have l:¬F b:=fun Q=>by have:=u.lt.2.2 _ Q;omega
 have R:Keep none' L (L++[Blk.cells 7 [[.int .i64 0,.str [],.str [],.str [],.str [],.str [],.int .i64 0]]]):=Keep.app Keep.refl
 refine zh (WU (E:=E.noPan) (n:=0) s (u.keep R fun _ _ h=>h) od od od od) ?_
 rintro r L2 ⟨rfl,⟨F',D,I⟩,q⟩
 have d:=q.get B l
 have A:=zg d
 have j:Grown (fun t=>t=p) F L1 (L++[Blk.cells 7 [[.int .i64 0,.str [],.str [],.str [],.str [],.str [],.int .i64 0]]]):=fun t w=>by
  rcases G t w with h | h
  ·exact .inl h
  ·right;simp only [lla,llc,lln];omega
 have S:=yE.step j (Keep.app M) D I q
 have J:yx [0,1,1,1,1,1,0] [IV.int .i64 0,.str [],.str [],.str [],.str [],.str [],.int .i64 0] [IV.int .i64 0,.str [],.str [],.str [],.str [],.str [],.int .i64 0]=some true:=by simp [yx]
 simp only [d,J,go_sem]
 exact S
theorem z4O (m:E.P=Tryz.prog) {b:Nat} {e:Zf} (R:L[b]?=some (.cells 13 [e.cells])) (he:e.ok):Writes E L 108 [.ptr b 0 0] e.bytes:=by
 intro L1 p hk hp w
 obtain ⟨⟨o1,o2⟩,D,o4,o5,G,O⟩:=he
 have d:=hk.get R fun h=>h
 have ae:=zg d
 have aj:=zf R
 have j:¬b=p:=by omega
 unfold Zf.cells at d
 have t1:=zZ e.flow od
 have t2:=zZ e.node od
 have n1:=Z5 (n:=e.kind) od
 have n2:=Z5 G
 have n3:=Z5 O
 have n4:=Z5 D.1
 have n5:=Z5 D.2.1
 have s0:=yE.start w
 refine xt2 (fn:=Tryz.f108) (rs:=[]) (c:=zmo) m fun ρ q h1=>?_
 unfold zmo
 simp only [q,h1,d,go_sem]
 refine zh (z0y (E:=E.noPan) (n:=e.kind) m s0 od od od (by simp)) ?_
 rintro r L2 ⟨rfl,Q⟩
 have B:=Q.get d j
 have U:=zg B
 simp only [q,h1,B,go_sem]
 refine zh (ziU (E:=E.noPan) m Q D (by simp only [lla,lln];omega)) ?_
 rintro r L3 ⟨rfl,I⟩
 have A:=I.get d j
 have ai:=zg A
 simp only [q,h1,A,go_sem]
 refine zh (z2S (E:=E.noPan) (l:=[e.flow,e.node]) m I (by simp) (by intro x S;simp only [List.mem_cons,List.not_mem_nil,or_false] at S;rcases S with rfl | rfl<;>assumption) (by simp only [lla,lln];omega)) ?_
 rintro r L4 ⟨rfl,J⟩
 have v:=J.get d j
 have af:=zg v
 simp only [q,h1,v,go_sem]
 refine zh (J4 (E:=E.noPan) (n:=e.try_) m J G (by simp only [lla,List.flatMap_cons,List.flatMap_nil,lln];omega)) ?_
 rintro r L5 ⟨rfl,M⟩
 have s:=M.get d j
 have ah:=zg s
 simp only [q,h1,s,go_sem]
 refine zh (J4 (E:=E.noPan) (n:=e.at_) m M O (by simp only [lla,List.flatMap_cons,List.flatMap_nil,lln];omega)) ?_
 rintro r L6 ⟨rfl,T⟩
 have u:=T.get d j
 have ag:=zg u
 simp only [q,h1,u,go_sem]
 refine zh (z9G (E:=E.noPan) m T (by simp only [lla,List.flatMap_cons,List.flatMap_nil,lln];omega)) ?_
 rintro r L7 ⟨rfl,V⟩
 simp only [go_sem]
 obtain ⟨F,Y,Z,X⟩:=V
 exact ⟨⟨F,by simpa [Zf.bytes] using Y,Z⟩,X⟩
theorem z8Z (j:E.P=Tryz.prog) {e:Zf} (p:e.ok):XT E 46 [.agg e.cells] L fun r L'=>r=.tup [.isl e.bytes,.int .i64 0]/\L'=L:=by
 refine zU (R:=fun r L'=>∃v,r=.tup [v,.int .i64 0]/\zcz L L' v e.bytes/\Keep none' L L') ?_ ?_
 ·skip
  refine xt1 (fn:=Tryz.f46) (rs:=[.tmp 2,.tmp 3]) (c:=q46) j fun ρ u=>?_
  unfold q46
  have m:cellsOf (.agg e.cells)=e.cells:=rfl
  have d:e.cells.length=13:=rfl
  simp only [u,m,d,go_sem]
  refine zh (Yp (E:=E.noPan) j (z4O j (b:=L.length) (e:=e) (by simp) p) e.bytes_ne) ?_
  rintro r L' ⟨v,rfl,⟨g,rfl,hg,w,s⟩,l⟩
  simp only [go_sem]
  exact ⟨_,rfl,⟨g,rfl,by simp at hg;omega,w,s⟩,Keep.trans (Keep.app Keep.refl) l fun _ _ h=>h⟩
 ·rintro r L' ⟨v,rfl,q,l⟩
  exact ⟨l,_,by simp only [fuel,conv,zJ,wC q];rfl,rfl⟩
def zkl : XC :=(sO [oO 2 (.alloc [(.int .i64 0),(.raw (.complex .f64 0 0)),(.str []),(.str []),(.int .i64 0),(.int .i64 0),(.int .i64 0),(.str []),(.str []),(.str []),(.str []),(.str []),(.int .i64 0)]),oI 3 0,oI 4 0] (sO [oM 5 0,oC 6 237 [.t 5,(.f 238)],oX 7 0 6,oX 8 1 6,oX 9 2 6,oU (.store 13 (.t 2) (.t 7)),oM 3 8,oM 4 9] .ret))
def zm0 : XC :=(sO [oO 2 (.alloc [(.int .i64 0),(.raw (.complex .f64 0 0)),(.str []),(.str []),(.int .i64 0),(.int .i64 0),(.int .i64 0),(.str []),(.str []),(.str []),(.str []),(.str []),(.int .i64 0)])] (sO [oM 3 0,oC 4 95 [.t 3,(oi 1),(oi 3)],oF 5 0 2,oS 5 4] (sO [oM 6 0,oC 7 239 [.t 6],oF 8 1 2,oS 8 7] (sO [oM 9 0,oC 10 96 [.t 9],oF 11 2 2,oS 11 10] (sO [oM 12 0,oC 13 96 [.t 12],oF 14 3 2,oS 14 13] (sO [oM 15 0,oC 16 147 [.t 15],oF 17 4 2,oS 17 16] (sO [oM 18 0,oC 19 147 [.t 18],oF 20 5 2,oS 20 19] (sO [oM 21 0,oC 22 196 [.t 21],oF 23 6 2,oU (.store 7 (.t 23) (.t 22))] (sO [oO 24 (.loadN 13 (.t 2)),oU (.store 13 (.t 2) (.t 24))] .ret)))))))))
def zjJ : XC :=(sO [oO 2 (.mov (.c (.raw (.complex .f64 0 0))))] (sO [oM 4 0,oC 5 147 [.t 4],oM 3 5] (sO [oM 6 3,oO 7 (.ex (.itof .f64) [.t 6]),oM 8 0,oC 9 147 [.t 8],oO 10 (.ex (.itof .f64) [.t 9]),oO 11 (.ex .cpx [.t 7,.t 10]),oM 2 11] .ret)))
def zkt : XC :=(sO [oO 2 (.alloc [(.int .i64 0),(.str []),(.str []),(.str []),(.str []),(.str []),(.int .i64 0)])] (sO [oM 5 0,oC 6 95 [.t 5,(oi 0),(oi 4)],oF 7 0 2,oS 7 6] (.seq (sO [oF 8 0 2,oL 9 8,oK 10 .eql 9 0] (cT 10 (sO [oO 11 (.loadN 7 (.t 2)),oU (.store 7 (.t 2) (.t 11))] .ret) .skip)) (.seq (sO [oF 12 1 2,oF 13 2 2,oF 14 3 2,oF 15 4 2,oF 16 5 2,oO 17 (.bslice 1 [(.raw (.pointer none))] 5 [(0,(.t 12)),(1,(.t 13)),(2,(.t 14)),(3,(.t 15)),(4,(.t 16))]),oY 18 17,oI 19 0] (.block 0 (.loop (sO [oB 20 .lss 19 18] (.seq (cT 20 .skip (.exit 0)) (.seq (.block 1 (sO [oO 21 (.idxS 1 (.t 17) (.t 19)),oL 22 21,oM 4 22] (.ops [oM 23 4,oM 24 0,oC 25 96 [.t 24],oN 26 23,oS 26 25]))) (.ops [oK 27 .add 19 1,oM 19 27]))))))) (sO [oM 28 0,oC 29 95 [.t 28,(oi 0),(oi 4)],oF 30 6 2,oS 30 29] (sO [oO 31 (.loadN 7 (.t 2)),oU (.store 7 (.t 2) (.t 31))] .ret))))))
theorem ziZ (b:E.P=Tryz.prog) {p a re im:Nat} {bs rest:List (List IV)} (d:L[p]?=some (yZ bs a)) (ha:bs.drop a=zL re++(zL im++rest)) (j:zA bs) (l:bs.length<=1099511627776) (h1:re<=4503599627370496) (h2:im<=4503599627370496) :
  XT E 239 [.ptr p 0 0] L fun r L'=>r=.raw (.complex .f64 (floatOfInt .f64 (re:Int)) (floatOfInt .f64 (im:Int)))/\L'=L.set p (yZ bs (a+(zn re+1)+(zn im+1))):=by
 have m:=zM re
 refine xt1 (fn:=Tryz.f239) (rs:=[.tmp 2]) (c:=zjJ) b fun ρ h=>?_
 unfold zjJ
 simp only [h,go_sem]
 refine zh (Y1 (E:=E.noPan) (n:=re) b d ha j l h1) ?_
 rintro r L2 ⟨rfl,rfl⟩
 simp only [h,go_sem]
 have hd:=drop_at ha
 rw [m] at hd
 refine zh (Y1 (E:=E.noPan) (p:=p) (bs:=bs) (a:=a+(zn re+1)) (n:=im) (rest:=rest) b (by rw [List.getElem?_set_self (zf d)]) hd j l h2) ?_
 rintro r L3 ⟨rfl,rfl⟩
 simp only [go_sem]
 rw [List.set_set]
theorem WJ.keep {L1 L':List Blk} {p x a b N:Nat} {bs:List (List IV)} {cs:List IV} (h:WJ L1 L p x bs a N cs) (j:L'[p]?=some (yZ bs b)) (d:Keep (fun t=>t=p) L L'):WJ L1 L' p x bs b N cs:=by
 obtain ⟨h1,h2,m,q,l⟩:=h
 exact ⟨j,d.get h2 od,m.trans d fun _ _ h=>h,q,l⟩
theorem zca (q:E.P=Tryz.prog) {p a:Nat} {bs rest:List (List IV)} (l:L[p]?=some (yZ bs a)) (ha:bs.drop a=zL 0++rest) (v:zA bs) (A:bs.length<=1099511627776) :
  XT E 196 [.ptr p 0 0] L fun r L'=>r=.agg [.int .i64 0,.str [],.str [],.str [],.str [],.str [],.int .i64 0]/\L'[p]?=some (yZ bs (a+(zn 0+1)))/\Keep (fun t=>t=p) L L':=by
 have b:=zf l
 refine xt1 (fn:=Tryz.f196) (rs:=[.cellN 2 7]) (c:=zkt) q fun ρ u=>?_
 unfold zkt
 simp only [u,go_sem]
 obtain ⟨x,s⟩:∃x,L.length=x:=⟨_,rfl⟩
 have s0:WJ L (L++[Blk.cells 7 [[.int .i64 0,.str [],.str [],.str [],.str [],.str [],.int .i64 0]]]) p x bs a 7 [.int .i64 0,.str [],.str [],.str [],.str [],.str [],.int .i64 0]:=⟨Zu l,by rw [<-s];simp,Keep.app Keep.refl,od,b⟩
 rw [s]
 generalize L++[Blk.cells 7 [[.int .i64 0,.str [],.str [],.str [],.str [],.str [],.int .i64 0]]]=L2 at *
 refine zh (WV (E:=E.noPan) (n:=0) q s0.1 ha v A od od od) ?_
 rintro r L3 ⟨rfl,rfl⟩
 have m:=s0.2.1
 have B:=zg m
 have lp:=zg s0.1
 have j:(p=x)=False:=fO
 have d:(x=p)=False:=fO
 have w:((0:Nat):Int)=0:=rfl
 simp only [m,B,lp,j,d,w,Y6,Zk,ZJ,go_sem]
 refine ⟨rfl,Keep.set (Keep.set (Keep.set s0.2.2.1 fun _=>rfl) fun h=>by omega) fun h=>by omega⟩
def Zf.rcells (t:Zf):List IV:=[.int .i64 t.kind,.raw (.complex .f64 (floatOfInt .f64 (t.re:Int)) (floatOfInt .f64 (t.im:Int))),.str t.flow,.str t.node,.int .i64 t.try_,.int .i64 t.at_,.int .i64 0,.str [],.str [],.str [],.str [],.str [],.int .i64 0]
theorem Zf.bytes_byte (t:Zf):zA t.bytes:=by
 have b:∀x,zA (zH x):=fun x=>(zO _).app (Zm _)
 unfold Zf.bytes
 refine (((((zO _).app ((zO _).app (zO _))).app ?_).app (zO _)).app (zO _)).app (zO _)
 intro r d
 obtain ⟨x,_,h⟩:=List.mem_flatMap.1 d
 exact b x r h
theorem z7s (hP:E.P=Tryz.prog) {t:Zf} (he0:t.ok):Reads E L 238 [] t.bytes none' fun r M=>r=.agg t.rcells:=by
 intro L1 p hk hp hl he
 obtain ⟨⟨o1,o2⟩,o3,o4,o5,o6,o7⟩:=he0
 have t1:=zZ t.flow od
 have t2:=zZ t.node od
 have n1:=Z5 (n:=t.kind) od
 have n2:=Z5 o6
 have n3:=Z5 o7
 have n4:=Z5 o3.1
 have n5:=Z5 o3.2.1
 have n6:=Z5 (n:=0) od
 have m1:=zM t.kind
 have m2:=zM t.re
 have m3:=zM t.im
 have m4:=zM t.try_
 have m5:=zM t.at_
 have m6:=zM 0
 have hbl:t.bytes.length<=1099511627776:=by simp only [Zf.bytes,lla,List.flatMap_cons,List.flatMap_nil,lln];omega
 have hbb:=t.bytes_byte
 have e0:t.bytes=[]++(zL t.kind++(zL t.re++zL t.im++zH t.flow++zH t.node++zL t.try_++zL t.at_++zL 0)):=by simp [Zf.bytes]
 have e1:t.bytes=zL t.kind++(zL t.re++(zL t.im++(zH t.flow++zH t.node++zL t.try_++zL t.at_++zL 0))):=by simp [Zf.bytes]
 have e2:t.bytes=(zL t.kind++zL t.re++zL t.im)++(zH t.flow++(zH t.node++zL t.try_++zL t.at_++zL 0)):=by simp [Zf.bytes]
 have e3:t.bytes=(zL t.kind++zL t.re++zL t.im++zH t.flow)++(zH t.node++(zL t.try_++zL t.at_++zL 0)):=by simp [Zf.bytes]
 have e4:t.bytes=(zL t.kind++zL t.re++zL t.im++zH t.flow++zH t.node)++(zL t.try_++(zL t.at_++zL 0)):=by simp [Zf.bytes]
 have e5:t.bytes=(zL t.kind++zL t.re++zL t.im++zH t.flow++zH t.node++zL t.try_)++(zL t.at_++zL 0):=by simp [Zf.bytes]
 have e6:t.bytes=(zL t.kind++zL t.re++zL t.im++zH t.flow++zH t.node++zL t.try_++zL t.at_)++(zL 0++[]):=by simp [Zf.bytes]
 generalize hbs:t.bytes=bs at *
 refine xt1 (fn:=Tryz.f238) (rs:=[.cellN 2 13]) (c:=zm0) hP fun ρ h0=>?_
 unfold zm0
 simp (maxDischargeDepth:=12) only [h0,go_sem]
 obtain ⟨x,hx⟩:∃x,L1.length=x:=⟨_,rfl⟩
 have s0:WJ L1 (L1++[Blk.cells 13 [[.int .i64 0,.raw (.complex .f64 0 0),.str [],.str [],.int .i64 0,.int .i64 0,.int .i64 0,.str [],.str [],.str [],.str [],.str [],.int .i64 0]]]) p x bs 0 13 [.int .i64 0,.raw (.complex .f64 0 0),.str [],.str [],.int .i64 0,.int .i64 0,.int .i64 0,.str [],.str [],.str [],.str [],.str [],.int .i64 0]:=⟨Zu he,by rw [<-hx];simp,Keep.app Keep.refl,od,od⟩
 rw [hx]
 generalize L1++[Blk.cells 13 [[.int .i64 0,.raw (.complex .f64 0 0),.str [],.str [],.int .i64 0,.int .i64 0,.int .i64 0,.str [],.str [],.str [],.str [],.str [],.int .i64 0]]]=M0 at *
 have hpx:(p=x)=False:=fO
 have hxp:(x=p)=False:=fO
 have hic:∀a b:Nat,zG (.raw (.complex .f64 a b))=true:=fun _ _=>rfl
 refine zh (WV (E:=E.noPan) (n:=t.kind) hP s0.1 (Zr e0 rfl) hbb hbl od od od) ?_
 rintro r N0 ⟨rfl,rfl⟩
 have gx0:=s0.2.1
 have lx0:=zg gx0
 have lp0:=zg s0.1
 simp (maxDischargeDepth:=12) only [h0,gx0,hpx,go_sem]
 have s1:=s0.next ((zn t.kind+1)) [.int .i64 t.kind,.raw (.complex .f64 0 0),.str [],.str [],.int .i64 0,.int .i64 0,.int .i64 0,.str [],.str [],.str [],.str [],.str [],.int .i64 0]
 obtain ⟨M1,hM1⟩:∃M,(M0.set p (yZ bs ((zn t.kind+1)))).set x (.cells 13 [[.int .i64 t.kind,.raw (.complex .f64 0 0),.str [],.str [],.int .i64 0,.int .i64 0,.int .i64 0,.str [],.str [],.str [],.str [],.str [],.int .i64 0]])=M:=⟨_,rfl⟩
 rw [hM1] at s1 ⊢
 refine zh (ziZ (E:=E.noPan) hP s1.1 (Zr e1 (by (try simp only [lla]);omega)) hbb hbl o3.1 o3.2.1) ?_
 rintro r N1 ⟨rfl,rfl⟩
 have gx1:=s1.2.1
 have lx1:=zg gx1
 have lp1:=zg s1.1
 simp (maxDischargeDepth:=12) only [h0,gx1,hpx,hic,go_sem]
 have s2:=s1.next ((zn t.kind+1)+(zn t.re+1)+(zn t.im+1)) [.int .i64 t.kind,.raw (.complex .f64 (floatOfInt .f64 (t.re:Int)) (floatOfInt .f64 (t.im:Int))),.str [],.str [],.int .i64 0,.int .i64 0,.int .i64 0,.str [],.str [],.str [],.str [],.str [],.int .i64 0]
 obtain ⟨M2,hM2⟩:∃M,(M1.set p (yZ bs ((zn t.kind+1)+(zn t.re+1)+(zn t.im+1)))).set x (.cells 13 [[.int .i64 t.kind,.raw (.complex .f64 (floatOfInt .f64 (t.re:Int)) (floatOfInt .f64 (t.im:Int))),.str [],.str [],.int .i64 0,.int .i64 0,.int .i64 0,.str [],.str [],.str [],.str [],.str [],.int .i64 0]])=M:=⟨_,rfl⟩
 rw [hM2] at s2 ⊢
 refine zh (wY (E:=E.noPan) (s:=t.flow) hP s2.1 (Zr e2 (by (try simp only [lla]);omega)) hbb hbl od) ?_
 rintro r N2 ⟨rfl,rfl⟩
 have gx2:=s2.2.1
 have lx2:=zg gx2
 have lp2:=zg s2.1
 simp (maxDischargeDepth:=12) only [h0,gx2,hpx,go_sem]
 have s3:=s2.next ((zn t.kind+1)+(zn t.re+1)+(zn t.im+1)+(zH t.flow).length) [.int .i64 t.kind,.raw (.complex .f64 (floatOfInt .f64 (t.re:Int)) (floatOfInt .f64 (t.im:Int))),.str t.flow,.str [],.int .i64 0,.int .i64 0,.int .i64 0,.str [],.str [],.str [],.str [],.str [],.int .i64 0]
 obtain ⟨M3,hM3⟩:∃M,(M2.set p (yZ bs ((zn t.kind+1)+(zn t.re+1)+(zn t.im+1)+(zH t.flow).length))).set x (.cells 13 [[.int .i64 t.kind,.raw (.complex .f64 (floatOfInt .f64 (t.re:Int)) (floatOfInt .f64 (t.im:Int))),.str t.flow,.str [],.int .i64 0,.int .i64 0,.int .i64 0,.str [],.str [],.str [],.str [],.str [],.int .i64 0]])=M:=⟨_,rfl⟩
 rw [hM3] at s3 ⊢
 refine zh (wY (E:=E.noPan) (s:=t.node) hP s3.1 (Zr e3 (by (try simp only [lla]);omega)) hbb hbl od) ?_
 rintro r N3 ⟨rfl,rfl⟩
 have gx3:=s3.2.1
 have lx3:=zg gx3
 have lp3:=zg s3.1
 simp (maxDischargeDepth:=12) only [h0,gx3,hpx,go_sem]
 have s4:=s3.next ((zn t.kind+1)+(zn t.re+1)+(zn t.im+1)+(zH t.flow).length+(zH t.node).length) [.int .i64 t.kind,.raw (.complex .f64 (floatOfInt .f64 (t.re:Int)) (floatOfInt .f64 (t.im:Int))),.str t.flow,.str t.node,.int .i64 0,.int .i64 0,.int .i64 0,.str [],.str [],.str [],.str [],.str [],.int .i64 0]
 obtain ⟨M4,hM4⟩:∃M,(M3.set p (yZ bs ((zn t.kind+1)+(zn t.re+1)+(zn t.im+1)+(zH t.flow).length+(zH t.node).length))).set x (.cells 13 [[.int .i64 t.kind,.raw (.complex .f64 (floatOfInt .f64 (t.re:Int)) (floatOfInt .f64 (t.im:Int))),.str t.flow,.str t.node,.int .i64 0,.int .i64 0,.int .i64 0,.str [],.str [],.str [],.str [],.str [],.int .i64 0]])=M:=⟨_,rfl⟩
 rw [hM4] at s4 ⊢
 refine zh (Y1 (E:=E.noPan) (n:=t.try_) hP s4.1 (Zr e4 (by (try simp only [lla]);omega)) hbb hbl o6) ?_
 rintro r N4 ⟨rfl,rfl⟩
 have gx4:=s4.2.1
 have lx4:=zg gx4
 have lp4:=zg s4.1
 simp (maxDischargeDepth:=12) only [h0,gx4,hpx,go_sem]
 have s5:=s4.next ((zn t.kind+1)+(zn t.re+1)+(zn t.im+1)+(zH t.flow).length+(zH t.node).length+(zn t.try_+1)) [.int .i64 t.kind,.raw (.complex .f64 (floatOfInt .f64 (t.re:Int)) (floatOfInt .f64 (t.im:Int))),.str t.flow,.str t.node,.int .i64 t.try_,.int .i64 0,.int .i64 0,.str [],.str [],.str [],.str [],.str [],.int .i64 0]
 obtain ⟨M5,hM5⟩:∃M,(M4.set p (yZ bs ((zn t.kind+1)+(zn t.re+1)+(zn t.im+1)+(zH t.flow).length+(zH t.node).length+(zn t.try_+1)))).set x (.cells 13 [[.int .i64 t.kind,.raw (.complex .f64 (floatOfInt .f64 (t.re:Int)) (floatOfInt .f64 (t.im:Int))),.str t.flow,.str t.node,.int .i64 t.try_,.int .i64 0,.int .i64 0,.str [],.str [],.str [],.str [],.str [],.int .i64 0]])=M:=⟨_,rfl⟩
 rw [hM5] at s5 ⊢
 refine zh (Y1 (E:=E.noPan) (n:=t.at_) hP s5.1 (Zr e5 (by (try simp only [lla]);omega)) hbb hbl o7) ?_
 rintro r N5 ⟨rfl,rfl⟩
 have gx5:=s5.2.1
 have lx5:=zg gx5
 have lp5:=zg s5.1
 simp (maxDischargeDepth:=12) only [h0,gx5,hpx,go_sem]
 have s6:=s5.next ((zn t.kind+1)+(zn t.re+1)+(zn t.im+1)+(zH t.flow).length+(zH t.node).length+(zn t.try_+1)+(zn t.at_+1)) [.int .i64 t.kind,.raw (.complex .f64 (floatOfInt .f64 (t.re:Int)) (floatOfInt .f64 (t.im:Int))),.str t.flow,.str t.node,.int .i64 t.try_,.int .i64 t.at_,.int .i64 0,.str [],.str [],.str [],.str [],.str [],.int .i64 0]
 obtain ⟨M6,hM6⟩:∃M,(M5.set p (yZ bs ((zn t.kind+1)+(zn t.re+1)+(zn t.im+1)+(zH t.flow).length+(zH t.node).length+(zn t.try_+1)+(zn t.at_+1)))).set x (.cells 13 [[.int .i64 t.kind,.raw (.complex .f64 (floatOfInt .f64 (t.re:Int)) (floatOfInt .f64 (t.im:Int))),.str t.flow,.str t.node,.int .i64 t.try_,.int .i64 t.at_,.int .i64 0,.str [],.str [],.str [],.str [],.str [],.int .i64 0]])=M:=⟨_,rfl⟩
 rw [hM6] at s6 ⊢
 refine zh (zca (E:=E.noPan) hP s6.1 (Zr e6 (by (try simp only [lla]);omega)) hbb hbl) ?_
 rintro r N6 ⟨rfl,k1,k2⟩
 have s7:=s6.keep k1 k2
 have gx7:=s7.2.1
 have lx7:=zg gx7
 simp (maxDischargeDepth:=12) only [gx7,lx7,hic,Y6,Zk,ZJ,go_sem]
 have hlb:bs.length=(zn t.kind+1)+(zn t.re+1)+(zn t.im+1)+(zH t.flow).length+(zH t.node).length+(zn t.try_+1)+(zn t.at_+1)+(zn 0+1):=by rw [e6];simp only [lla,lln];omega
 have hxn:¬x=p:=by omega
 refine ⟨rfl,?_,Keep.set (Keep.set (s7.2.2.1.mono fun t _ h=>.inl h) fun h=>by omega) fun h=>by omega⟩
 rw [List.getElem?_set_ne hxn,List.getElem?_set_ne hxn,s7.1,hlb]
theorem z2i (p:E.P=Tryz.prog) {t:Zf} (b:t.ok):zD E 182 [.isl t.bytes] (.tup [.agg t.rcells,.int .i64 0,.int .i64 0]):=by
 refine zU (R:=fun r L'=>r=.tup [.agg t.rcells,.int .i64 0,.int .i64 0]/\Keep none' [] L') ?_ ?_
 ·skip
  refine xt1 (fn:=Tryz.f182) (rs:=[.cellN 2 13,.tmp 3,.tmp 4]) (c:=zkl) p fun ρ A=>?_
  unfold zkl
  simp only [A,go_sem]
  refine zh (z8H (E:=E.noPan) p (z7s p b) (fun r M M' _ h=>h) (fun _ h=>h.elim) (fun r M h=>⟨_,h,rfl,rfl⟩)) ?_
  rintro r L2 ⟨v,rfl,rfl,s⟩
  have w:=s.get (t:=0) (k:=Blk.cells 13 [[.int .i64 0,.raw (.complex .f64 0 0),.str [],.str [],.int .i64 0,.int .i64 0,.int .i64 0,.str [],.str [],.str [],.str [],.str [],.int .i64 0]]) rfl (fun h=>h)
  have B:=zg w
  have u:cellsOf (.agg t.rcells)=t.rcells:=rfl
  have j:t.rcells.length=13:=rfl
  have q:t.rcells.all zG=true:=rfl
  have m:t.rcells.take 13=t.rcells:=rfl
  have d:List.drop 13 ([.int .i64 0,.raw (.complex .f64 0 0),.str [],.str [],.int .i64 0,.int .i64 0,.int .i64 0,.str [],.str [],.str [],.str [],.str [],.int .i64 0]:List IV)=[]:=rfl
  have l:List.length ([.int .i64 0,.raw (.complex .f64 0 0),.str [],.str [],.int .i64 0,.int .i64 0,.int .i64 0,.str [],.str [],.str [],.str [],.str [],.int .i64 0]:List IV)=13:=rfl
  simp only [w,B,u,j,q,m,d,l,List.append_nil,Y6,Zk,ZJ,WH,go_sem]
  exact ⟨rfl,⟨Nat.zero_le _,fun t b=>nomatch b⟩⟩
 ·rintro r L' ⟨rfl,s⟩
  exact ⟨s,_,rfl,rfl⟩
def q76 : XC :=(sO [oV 2 .nsl,oI 3 0,oI 4 0] (sO [oM 5 0,oC 6 145 [.t 5,(.f 146)],oX 7 0 6,oX 8 1 6,oX 9 2 6,oM 2 7,oM 3 8,oM 4 9] .ret))
def zlR : XC :=(sO [oV 2 .nsl] (.seq (sO [oM 4 0,oC 5 147 [.t 4],oI 6 0] (.block 0 (.loop (sO [oB 7 .lss 6 5] (.seq (cT 7 .skip (.exit 0)) (.seq (.block 1 (sO [oM 8 0,oC 9 96 [.t 8],oO 10 (.build [(.str []),(.str []),(.bool false)] [(0,(1,(.t 9)))]),oO 3 (.alloc [(.str []),(.str []),(.bool false)]),oU (.store 3 (.t 3) (.t 10))] (.seq (sO [oM 11 0,oC 12 148 [.t 11],oF 13 2 3,oS 13 12] (sO [oF 14 2 3,oL 15 14,oO 16 (.un .not (.t 15))] (cT 16 (.ops [oM 17 0,oC 18 96 [.t 17],oF 19 1 3,oS 19 18]) .skip))) (.ops [oM 20 2,oO 21 (.loadN 3 (.t 3)),oO 22 (.bslice 3 [(.str []),(.str []),(.bool false)] 1 [(0,(.t 21))]),oO 23 (.append 3 40 (.t 20) (.t 22)),oM 2 23])))) (.ops [oK 24 .add 6 1,oM 6 24]))))))) (sO [oM 25 2,oM 2 25] .ret)))
theorem z2L (x:List UInt8):zA (zH x):=(zO _).app (Zm _)
theorem z3m (o:OpV) (h:o.gone=false):yI [o]=zL 1++(zH o.key++([[.int .u8 0]]++zH o.val)):=by simp [yI,OpV.bytes,h]
theorem z8u (A:E.P=Tryz.prog) {o:OpV} (hg:o.gone=false) (af:o.key.length<=100000) (aj:o.val.length<=100000):Reads E L 146 [] (yI [o]) none' fun r M=>∃g,r=.sl g 0 1 1/\L.length+4<=g/\M[g]?=some (.cells 3 [[.str o.key,.str o.val,.bool false]]):=by
 intro L1 p hk hp hl he
 have t1:=zZ o.key od
 have t2:=zZ o.val od
 have n1:=Z5 (n:=1) od
 have m1:=zM 1
 have e0:yI [o]=[]++(zL 1++(zH o.key++([[.int .u8 0]]++zH o.val))):=by rw [z3m o hg];simp
 have e1:yI [o]=zL 1++(zH o.key++([[.int .u8 0]]++zH o.val)):=z3m o hg
 have e2:yI [o]=(zL 1++zH o.key)++([IV.int .u8 (if false then 1 else 0)]::zH o.val):=by rw [z3m o hg];simp
 have e3:yI [o]=(zL 1++zH o.key++[[.int .u8 0]])++(zH o.val++[]):=by rw [z3m o hg];simp
 have m:zA (yI [o]):=by
  rw [z3m o hg]
  refine (zO _).app ((z2L _).app (zA.app ?_ (z2L _)))
  intro r B
  simp only [List.mem_singleton] at B
  subst B
  exact ⟨0,rfl⟩
 have l:(yI [o]).length<=1099511627776:=by rw [e1];simp only [lla,llc,lln];omega
 generalize ax:yI [o]=bs at *
 refine xt1 (fn:=Tryz.f146) (rs:=[.tmp 2]) (c:=zlR) A fun ρ q=>?_
 unfold zlR
 simp only [q,go_sem]
 refine zh (Y1 (E:=E.noPan) (n:=1) A he (Zr e0 rfl) m l od) ?_
 rintro r L2 ⟨rfl,rfl⟩
 have ez:((1:Nat):Int)=1:=rfl
 simp only [ez,go_sem]
 obtain ⟨L2,d⟩:∃M,L1.set p (yZ bs (0+(zn 1+1)))=M:=⟨_,rfl⟩
 have k2:Keep (fun t=>t=p) L1 L2:=by rw [<-d];exact Keep.set Keep.refl fun _=>rfl
 have g2:L2[p]?=some (yZ bs (zn 1+1)):=by rw [<-d,List.getElem?_set_self (zf he),Nat.zero_add]
 rw [Nat.zero_add] at d
 rw [d]
 refine zC (fun n ρ M=>(n=1/\M=L2/\ρ 0=.ptr p 0 0/\ρ 2=.nsl/\ρ 5=.int .i64 1/\ρ 6=.int .i64 0)\/(n=0/\ρ 5=.int .i64 1/\ρ 6=.int .i64 1/\∃g,ρ 2=.sl g 0 1 1/\L.length+4<=g/\M[g]?=some (.cells 3 [[.str o.key,.str o.val,.bool false]])/\M[p]?=some (yZ bs bs.length)/\Keep (fun t=>t=p) L1 M))
  (.inl ⟨rfl,rfl,by simp only [q,go_sem],by simp only [go_sem],by simp only [go_sem],by simp only [go_sem]⟩) ?_
 clear q ρ
 rintro n ρ M (⟨rfl,rfl,q,h2,S,Q⟩ | ⟨rfl,S,Q,g,h2,g1,u,g4,g5⟩)
 rotate_left
 ·simp only [h2,S,Q,go_sem]
  exact ⟨⟨g,rfl,g1,u⟩,g4,g5.mono fun t _ h=>.inl h⟩
 simp only [q,S,Q,go_sem]
 refine zh (wY (E:=E.noPan) (s:=o.key) A g2 (Zr e1 od) m l od) ?_
 rintro r L3 ⟨rfl,rfl⟩
 obtain ⟨L3,j⟩:∃N,M.set p (yZ bs (zn 1+1+(zH o.key).length))=N:=⟨_,rfl⟩
 have k3:Keep (fun t=>t=p) L1 L3:=by rw [<-j];exact Keep.set k2 fun _=>rfl
 have u:L3[p]?=some (yZ bs (zn 1+1+(zH o.key).length)):=by rw [<-j,List.getElem?_set_self (zf g2)]
 have l3:L3.length=L1.length:=by rw [<-j,lls,<-d,lls]
 rw [j]
 have ah:(p<L3.length)=True:=eq_true (zf u)
 simp only [q,go_sem]
 obtain ⟨x,hx⟩:∃x,L3.length=x:=⟨_,rfl⟩
 have R:WJ L1 (L3++[Blk.cells 3 [[.str o.key,.str [],.bool false]]]) p x bs (zn 1+1+(zH o.key).length) 3 [.str o.key,.str [],.bool false]:=⟨Zu u,by rw [<-hx];simp,Keep.app k3,od,by have:=zf u;omega⟩
 rw [hx]
 generalize L3++[Blk.cells 3 [[IV.str o.key,.str [],.bool false]]]=L4 at *
 have J:(p=x)=False:=fO
 have au:(x=p)=False:=fO
 have w:=R.2.1
 have X:=zg w
 have ag:=zg R.1
 refine zh (ze2 (E:=E.noPan) (b:=false) A R.1 (Zr e2 (by simp only [lla];omega)) m l) ?_
 rintro r L5 ⟨rfl,rfl⟩
 simp only [q,w,X,J,go_sem]
 have D:=R.next (zn 1+1+(zH o.key).length+1) [.str o.key,.str [],.bool false]
 obtain ⟨L5,Y⟩:∃M,(L4.set p (yZ bs (zn 1+1+(zH o.key).length+1))).set x (.cells 3 [[.str o.key,.str [],.bool false]])=M:=⟨_,rfl⟩
 rw [Y] at D ⊢
 have G:=D.2.1
 have Z:=zg G
 have ak:=zg D.1
 refine zh (wY (E:=E.noPan) (s:=o.val) A D.1 (Zr e3 (by simp only [lla,llc,lln];omega)) m l od) ?_
 rintro r L6 ⟨rfl,rfl⟩
 simp only [h2,G,Z,J,go_sem]
 have O:=D.next (zn 1+1+(zH o.key).length+1+(zH o.val).length) [.str o.key,.str o.val,.bool false]
 obtain ⟨L6,v⟩:∃M,(L5.set p (yZ bs (zn 1+1+(zH o.key).length+1+(zH o.val).length))).set x (.cells 3 [[.str o.key,.str o.val,.bool false]])=M:=⟨_,rfl⟩
 rw [v] at O ⊢
 have ae:=O.2.1
 have ay:=zg ae
 have I:L5.length=L6.length:=by rw [<-v,lls,lls]
 simp only [go_sem]
 rw [I]
 have U:yz 3 [[IV.str o.key,IV.str o.val,IV.bool false]]:=fun r B=>by simp at B;subst B;exact ⟨rfl,rfl⟩
 have V:rowsOf (L6++[Blk.cells 3 [[IV.str o.key,IV.str o.val,IV.bool false]]]) (.sl L6.length 0 1 1)=some [[IV.str o.key,IV.str o.val,IV.bool false]]:=Zd (sz:=3) (by simp) rfl
 refine Yo V U (by simp) (by simp) ?_
 simp only [YF,q,h2,S,Q,go_sem]
 have T:bs.length=zn 1+1+(zH o.key).length+1+(zH o.val).length:=by rw [e3];simp only [lla,llc,lln];omega
 have ai:=O.2.2.1.1
 refine ⟨0,od,.inr ⟨rfl,_,rfl,?_,?_,?_,Keep.app (Keep.app O.2.2.1)⟩⟩
 ·simp only [lla,llc,lln];omega
 ·simp
 ·rw [T];exact Zu (Zu O.1)
theorem z6Y (l:E.P=Tryz.prog) {o:OpV} (hg:o.gone=false) (m:o.key.length<=100000) (d:o.val.length<=100000):XT E 76 [.isl (yI [o])] L fun r L'=>r=.tup [.isl [[.str o.key,.str o.val,.bool false]],.int .i64 0,.int .i64 0]/\L'=L:=by
 refine zU (R:=fun r L'=>∃g,r=.tup [.sl g 0 1 1,.int .i64 0,.int .i64 0]/\L.length<=g/\L'[g]?=some (.cells 3 [[.str o.key,.str o.val,.bool false]])/\Keep none' L L') ?_ ?_
 ·skip
  refine xt1 (fn:=Tryz.f76) (rs:=[.tmp 2,.tmp 3,.tmp 4]) (c:=q76) l fun ρ q=>?_
  unfold q76
  simp only [q,go_sem]
  refine zh (z9h (E:=E.noPan) l (z8u l hg m d) ?_ (fun _ h=>h.elim) (fun r M h=>?_)) ?_
  ·rintro r M M' b ⟨g,rfl,p,j⟩
   exact ⟨g,rfl,p,b.get j od⟩
  ·obtain ⟨g,rfl,_⟩:=h
   exact ⟨_,rfl,rfl,rfl⟩
  rintro r L2 ⟨v,rfl,⟨g,rfl,p,j⟩,b⟩
  simp only [go_sem]
  exact ⟨g,rfl,od,j,b⟩
 ·rintro r L' ⟨g,rfl,hgl,hg,b⟩
  have h1:Zv L.length g=some none:=by simp [Zv];omega
  exact ⟨b,_,by simp [fuel,conv,zJ,h1,hg],rfl⟩
theorem z7Y (gl:Nat->Option (List IV)):yw (vG Tryz.prog) gl 600 40 176 [.raw (.complex .f64 0 0)]=some (.tup [.int .i64 0,.int .i64 0,.bool true]):=by kernel_rfl
theorem z3I (b:E.P=Tryz.prog):zD E 176 [.raw (.complex .f64 0 0)] (.tup [.int .i64 0,.int .i64 0,.bool true]):=zy (Z8 b) (z7Y E.gl)
theorem z7a (gl:Nat->Option (List IV)):yw (vG Tryz.prog) gl 600 40 176 [.raw (.complex .f64 4607182418800017408 4607182418800017408)]=some (.tup [.int .i64 1,.int .i64 1,.bool true]):=by kernel_rfl
theorem z2K (b:E.P=Tryz.prog):zD E 176 [.raw (.complex .f64 4607182418800017408 4607182418800017408)] (.tup [.int .i64 1,.int .i64 1,.bool true]):=zy (Z8 b) (z7a E.gl)
def q85 : XC :=(sO [oV 6 (.str [])] (sO [oM 8 0,oM 9 1,oC 10 158 [.t 8,.t 9],oM 7 10] (sO [oM 11 2,oM 12 7,oO 13 (.lenS (.t 12)),oB 14 .sub 11 13,oO 15 (.max2 (oi 0) (.t 14)),oO 16 (.call (.f 159) [(.c (.str [48])),.t 15]),oM 17 7,oB 18 .add 16 17,oM 6 18] .ret)))
def zm9 : XC :=(sO [oV 2 (.str [])] (sO [oM 4 0,oC 5 158 [.t 4,(oi 16)],oM 3 5] (sO [oM 6 3,oO 7 (.lenS (.t 6)),oO 8 (.bin .sub (oi 14) (.t 7)),oO 9 (.max2 (oi 0) (.t 8)),oO 10 (.call (.f 159) [(.c (.str [48])),.t 9]),oM 11 3,oB 12 .add 10 11,oM 2 12] .ret)))
def q42 : XC :=(sO [oV 4 (.str [])] (sO [oM 5 0,oC 6 34 [.t 5],oM 7 1,oC 8 85 [.t 7,(oi 16),(oi 14)],oB 9 .add 6 8,oM 4 9] .ret))
def zla : XC :=(sO [oV 4 (.str [])] (sO [oM 5 0,oC 6 116 [.t 5],oM 7 1,oC 8 85 [.t 7,(oi 16),(oi 14)],oB 9 .add 6 8,oM 4 9] .ret))
def zlh : XC :=(sO [oV 2 (.str [])] (sO [oM 7 0,oC 8 176 [.t 7],oM 6 8,oX 9 0 6,oX 10 1 6,oX 11 2 6,oM 3 9,oM 4 10,oM 5 11] (.seq (sO [oM 12 5,oO 13 (.un .not (.t 12))] (cT 13 (sO [oV 2 (.str [])] .ret) .skip)) (sO [oM 14 3,oC 15 231 [.t 14],oM 16 4,oC 17 231 [.t 16],oB 18 .add 15 17,oM 2 18] .ret))))
def zlj : XC :=(sO [oV 2 (.str [])] (sO [oM 3 0,oC 4 177 [.t 3],oO 5 (.bin .add (.c (.str [100,47])) (.t 4)),oM 2 5] .ret))
def YN (n:Nat):List UInt8:=Lib.repeatL [48] (14 - (hexT n).length)++hexT n
theorem z1r:∀k,(Lib.repeatL [48] k).length=k
 | 0=>rfl
 | k+1=>by
  have:=z1r k
  simp [Lib.repeatL,this]<;>omega
theorem z6g:∀f n,(z6x f n).length<=f+1
 | 0,n=>by simp [z6x]
 | f+1,n=>by
  unfold z6x
  split
  ·simp
  ·have:=z6g f (n / 16)
   simp only [lla,llc,lln]
   omega
theorem z1q (n:Nat):(hexT n).length<=21:=z6g 20 n
theorem ZK (n:Nat):(YN n).length<=35:=by
 have:=z1q n
 unfold YN
 rw [lla,z1r]
 omega
theorem zg1 {k:Nat}:(if (14:Int) - (k:Int)>0 then (14:Int) - (k:Int) else 0)=((14 - k:Nat):Int):=by split<;>omega
theorem z05 (b:E.P=Tryz.prog) {n:Nat} (hg:E.gl 6=some dbT) (h:n<9223372036854775808):zD E 85 [.int .i64 n,.int .i64 16,.int .i64 14] (.str (YN n)):=by
 have l:=z1q n
 refine xu3 (fn:=Tryz.f85) (c:=q85) (t:=6) b fun ρ j h1 h2=>?_
 unfold q85
 simp only [j,h1,go_sem]
 refine zi (args':=[.int .i64 n,.int .i64 16]) rfl (z0D (E:=E.noPan) b hg h) rfl ?_
 have d:IntKind.i64.wrap ((14:Int) - ((hexT n).length:Int))=14 - ((hexT n).length:Int):=wrap64 od od
 simp only [h2,d,go_sem]
 rw [zg1]
 refine zi (args':=[.str [48],.int .i64 ((14 - (hexT n).length:Nat):Int)]) rfl (V7 (E:=E.noPan) b [48] (14 - (hexT n).length) od (by decide)) rfl ?_
 simp only [go_sem]
 exact ⟨by rw [z1r];omega,rfl⟩
theorem z0M (b:E.P=Tryz.prog) {n:Nat} (hg:E.gl 6=some dbT) (h:n<9223372036854775808):zD E 231 [.int .i64 n] (.str (YN n)):=by
 have l:=z1q n
 refine xu1 (fn:=Tryz.f231) (c:=zm9) (t:=2) b fun ρ j=>?_
 unfold zm9
 simp only [j,go_sem]
 refine zi (args':=[.int .i64 n,.int .i64 16]) rfl (z0D (E:=E.noPan) b hg h) rfl ?_
 have d:IntKind.i64.wrap ((14:Int) - ((hexT n).length:Int))=14 - ((hexT n).length:Int):=wrap64 od od
 simp only [d,go_sem]
 rw [zg1]
 refine zi (args':=[.str [48],.int .i64 ((14 - (hexT n).length:Nat):Int)]) rfl (V7 (E:=E.noPan) b [48] (14 - (hexT n).length) od (by decide)) rfl ?_
 simp only [go_sem]
 exact ⟨by rw [z1r];omega,rfl⟩
def evK (i:Nat):List UInt8:=[101,47,48,48,48,47]++YN i
def rqK (i:Nat):List UInt8:=[114,47,48,48,48,47]++YN i
def dpK (re im:Nat):List UInt8:=[100,47]++(YN re++YN im)
theorem z1v (b:E.P=Tryz.prog) {i:Nat} (hg:E.gl 6=some dbT) (d:i<9223372036854775808):zD E 42 [.int .i64 0,.int .i64 i] (.str (evK i)):=by
 refine xu2 (fn:=Tryz.f42) (c:=q42) (t:=4) b fun ρ h h1=>?_
 unfold q42
 simp only [h,go_sem]
 refine zi (args':=[.int .i64 0]) rfl (WG (E:=E.noPan) b) rfl ?_
 simp only [h1,go_sem]
 refine zi (args':=[.int .i64 i,.int .i64 16,.int .i64 14]) rfl (z05 (E:=E.noPan) b hg d) rfl ?_
 have j:=ZK i
 simp only [go_sem]
 exact ⟨od,rfl⟩
theorem WP (b:E.P=Tryz.prog) {i:Nat} (hg:E.gl 6=some dbT) (d:i<9223372036854775808):zD E 121 [.int .i64 0,.int .i64 i] (.str (rqK i)):=by
 refine xu2 (fn:=Tryz.f121) (c:=zla) (t:=4) b fun ρ h h1=>?_
 unfold zla
 simp only [h,go_sem]
 refine zi (args':=[.int .i64 0]) rfl (Ya (E:=E.noPan) b) rfl ?_
 simp only [h1,go_sem]
 refine zi (args':=[.int .i64 i,.int .i64 16,.int .i64 14]) rfl (z05 (E:=E.noPan) b hg d) rfl ?_
 have j:=ZK i
 simp only [go_sem]
 exact ⟨od,rfl⟩
theorem z7C (b:E.P=Tryz.prog) {re im rb ib:Nat} (hg:E.gl 6=some dbT) (h1:re<=4503599627370496) (h2:im<=4503599627370496) (d:∀E:Env,E.P=Tryz.prog->zD E 176 [.raw (.complex .f64 rb ib)] (.tup [.int .i64 re,.int .i64 im,.bool true])):zD E 177 [.raw (.complex .f64 rb ib)] (.str (YN re++YN im)):=by
 have j:=ZK re
 have l:=ZK im
 refine xu1 (fn:=Tryz.f177) (c:=zlh) (t:=2) b fun ρ h=>?_
 unfold zlh
 simp only [h,go_sem]
 refine zi (args':=[.raw (.complex .f64 rb ib)]) rfl (d E.noPan b) rfl ?_
 simp only [go_sem]
 refine zi (args':=[.int .i64 re]) rfl (z0M (E:=E.noPan) b hg od) rfl ?_
 simp only [go_sem]
 refine zi (args':=[.int .i64 im]) rfl (z0M (E:=E.noPan) b hg od) rfl ?_
 simp only [go_sem]
 exact ⟨od,rfl⟩
theorem jS (b:E.P=Tryz.prog) {re im rb ib:Nat} (hg:E.gl 6=some dbT) (h1:re<=4503599627370496) (h2:im<=4503599627370496) (d:∀E:Env,E.P=Tryz.prog->zD E 176 [.raw (.complex .f64 rb ib)] (.tup [.int .i64 re,.int .i64 im,.bool true])):zD E 113 [.raw (.complex .f64 rb ib)] (.str (dpK re im)):=by
 have j:=ZK re
 have l:=ZK im
 refine xu1 (fn:=Tryz.f113) (c:=zlj) (t:=2) b fun ρ h=>?_
 unfold zlj
 simp only [h,go_sem]
 refine zi (args':=[.raw (.complex .f64 rb ib)]) rfl (z7C (E:=E.noPan) b hg od od d) rfl ?_
 simp only [go_sem]
 exact ⟨by simp only [lla];omega,rfl⟩
def q58 : XC :=(sO [oV 4 .nsl] (sO [oV 5 .nsl] (.seq (.seq (.drawE [oM 11 0,oN 12 11,oF 13 0 12,oL 14 13,oM 15 1,oQ 16 116 [.t 15],oC 17 33 [.t 14,.t 16,(oi 2147483648)],oY 18 17,oI 19 0]) (.block 0 (.loop (sO [oB 20 .lss 19 18] (.seq (cT 20 .skip (.exit 0)) (.seq (.block 1 (sO [oO 21 (.idxS 2 (.t 17) (.t 19)),oO 22 (.loadN 2 (.t 21)),oO 7 (.alloc [(.str []),(.str [])]),oU (.store 2 (.t 7) (.t 22))] (sO [oF 24 1 7,oL 25 24,oO 26 (.ex (.strB 5) [.t 25]),oC 27 76 [.t 26],oM 23 27,oX 28 0 23,oX 29 1 23,oX 30 2 23,oM 8 28,oM 9 29,oM 10 30] (sO [oM 31 8,oY 32 31,oK 33 .eql 32 1] (cT 33 (.drawR [(oM 34 5,([],false)),(oF 35 0 7,([],false)),(oL 36 35,([],false)),(oM 37 8,([],false)),(oO 38 (.idxS 3 (.t 37) (oi 0)),([],false)),(oF 39 0 38,([],false)),(oL 40 39,([],false)),(oM 41 8,([],false)),(oO 42 (.idxS 3 (.t 41) (oi 0)),([],false)),(oF 43 1 42,([],false)),(oL 44 43,([],false)),(oO 45 (.build [(.str []),(.str []),(.str [])] [(0,(1,(.t 36))),(1,(1,(.t 40))),(2,(1,(.t 44)))]),([],false)),(oO 46 (.bslice 3 [(.str []),(.str []),(.str [])] 1 [(0,(.t 45))]),([],false)),(oO 47 (.append 3 48 (.t 34) (.t 46)),([],false)),(oM 5 47,([],false))]) .skip))))) (.ops [oK 48 .add 19 1,oM 19 48]))))))) (sO [oM 49 5,oM 4 49] .ret))))
def q15 : XC :=(sO [oV 6 (.str []),oV 7 (.bool false)] (sO [oM 13 0,oM 14 1,oC 15 32 [.t 13,.t 14],oM 12 15,oX 16 0 12,oX 17 1 12,oM 8 16,oM 9 17] (.seq (sO [oM 18 9,oO 19 (.un .not (.t 18))] (cT 19 (sO [oV 6 (.str []),oV 7 (.bool false)] .ret) .skip)) (.seq (sO [oM 20 0,oM 21 8,oC 22 58 [.t 20,.t 21],oY 23 22,oI 24 0] (.block 0 (.loop (sO [oB 25 .lss 24 23] (.seq (cT 25 .skip (.exit 0)) (.seq (.block 1 (sO [oO 26 (.idxS 3 (.t 22) (.t 24)),oO 27 (.loadN 3 (.t 26)),oO 11 (.alloc [(.str []),(.str []),(.str [])]),oU (.store 3 (.t 11) (.t 27))] (sO [oF 28 1 11,oL 29 28,oM 30 2,oB 31 .eql 29 30] (cT 31 (sO [oF 32 2 11,oL 33 32,oM 6 33,oV 7 (.bool true)] .ret) .skip)))) (.ops [oK 34 .add 24 1,oM 24 34]))))))) (sO [oV 6 (.str []),oV 7 (.bool false)] .ret)))))
def ZY (sz:Nat) (L0 L:List Blk) (v:IV) (rows:List (List IV)):Prop:=(v=.nsl/\rows=[])\/∃g,v=.sl g 0 rows.length rows.length/\L[g]?=some (.cells sz rows)/\L0.length<=g/\rows≠[]
structure RqV where
 key:List UInt8
 req:List UInt8
 ans:List UInt8
def RqV.row (q:RqV):List IV:=[.str q.key,.str q.req,.str q.ans]
def RqV.val (q:RqV):List UInt8:=strOf (yI [⟨q.req,q.ans,false⟩])
def RqV.ok (q:RqV):Prop:=q.req.length<=5000/\q.ans.length<=5000
def jC (l:List RqV):KV:=l.map fun q=>(q.key,q.val)
theorem RqV.ok.plain {q:RqV} (h:q.ok):Plain (yI [⟨q.req,q.ans,false⟩]):=by
 rw [z3m _ rfl]
 exact (yD od).app ((Y9 (by have:=h.1;show q.req.length<=_;omega)).app (Plain.app ⟨[0],rfl⟩ (Y9 (by have:=h.2;show q.ans.length<=_;omega))))
theorem RqV.ok.len {q:RqV} (h:q.ok):(yI [⟨q.req,q.ans,false⟩]).length<=11000:=by
 rw [z3m _ rfl]
 have h1:=zZ q.req (by have:=h.1;omega)
 have h2:=zZ q.ans (by have:=h.2;omega)
 have b:=Z5 (n:=1) od
 have:=h.1
 have:=h.2
 simp only [lla,llc,lln]
 omega
theorem wI {sz b:Nat} {L1:List Blk} {v:IV} {rows:List (List IV)} {p:List IV} {KV':IV->List Blk->Prop} (h:ZY sz L L1 v rows) (B:Keep none' L L1) (D:rows.length<=1000000) (m:b<=1000) (d:yz sz [p]) (s:∀(w:IV) (M:List Blk),Keep none' L M->ZY sz L M w (rows++[p])->KV' w M) :
  xop E (.append sz b (.c v) (.c (.sl L1.length 0 1 1))) cev (L1++[.cells sz [p]]) KV':=by
 have r:rowsOf (L1++[Blk.cells sz [p]]) (.sl L1.length 0 1 1)=some [p]:=Zd (sz:=sz) (by simp) rfl
 have j:Keep none' L (L1++[Blk.cells sz [p]]):=Keep.app B
 have q:(rows.length+1)*b<=70368744177664:=Nat.le_trans (Nat.mul_le_mul (show rows.length+1<=1000001 by omega) m) (by decide)
 rcases h with ⟨rfl,rfl⟩ | ⟨rb,rfl,l,u,A⟩
 ·refine Yo r d (by simp) (by simp;omega) (s _ _ (Keep.app j) (.inr ⟨_,rfl,?_,j.1,by simp⟩))
  simp
 ·refine yh (Zz l) rfl r d (by simp) q (s _ _ (Keep.app (Keep.set j fun h=>by omega)) (.inr ⟨(L1++[Blk.cells sz [p]]).length,by simp,?_,j.1,by simp⟩))
  have e1:((L1++[Blk.cells sz [p]]).set rb .dead).length=(L1++[Blk.cells sz [p]]).length:=lls
  rw [<-e1,List.getElem?_append_right (Nat.le_refl _),Nat.sub_self]
  simp
theorem ZY.keep {sz:Nat} {L0 L1 L2:List Blk} {v:IV} {rows:List (List IV)} (h:ZY sz L0 L1 v rows) (d:Keep none' L1 L2):ZY sz L0 L2 v rows:=by
 rcases h with h | ⟨g,h1,h2,j,b⟩
 ·exact .inl h
 ·exact .inr ⟨g,h1,d.get h2 fun h=>h,j,b⟩
theorem z3V {M:List Blk} {s:List UInt8} {t:Nat} {rs:List (List IV)} (h:M[t]?=some (.tcells 5 1 (zk s))) (j:zk s=rs):zJ (conv M fuel (WT t)) [IV.sl t 0 s.length s.length]=some [.isl rs]:=by
 subst j
 have b:conv M fuel (WT t) (IV.sl t 0 s.length s.length)=some (.isl (zk s)):=by
  have d:(zk s).take s.length=zk s:=List.take_of_length_le (by rw [yB];exact Nat.le_refl _)
  simp [fuel,conv,WT,h,d,YU (Zm s),yB]
 simp only [zJ,b]
theorem jJ (U:E.P=Tryz.prog) {x s N:Nat} {F:Nat->Prop} {j:Int} {d:KV} {l:List RqV} (hx:L[x]?=some (exB s)) (h:zl L s F N j d) (hN:d.length<=900000) (ai:∀p∈d,p.1.length<=1000) (hl:d.list [114,47,48,48,48,47]=jC l) (ho:∀q∈l,q.ok) (aj:l.length<=100000) :
  XT E 58 [.ptr x 0 0,.int .i64 0] L fun r L'=>ZY 3 L L' r (l.map RqV.row)/\Keep none' L L':=by
 have lx:=zg hx
 have I:=hx
 unfold exB at I
 refine xt2 (fn:=Tryz.f58) (rs:=[.tmp 4]) (c:=q58) U fun ρ h0 h1=>?_
 unfold q58
 simp only [h0,h1,I,go_sem]
 refine zY (args':=[.int .i64 0]) rfl (Ya (E:=E.noPan) U) (fun _=>rfl) ?_
 simp only [go_sem]
 refine zh (Jw (E:=E.noPan) U h hN (by decide) ai) ?_
 rintro r L1 ⟨rfl,rfl⟩
 rw [hl]
 have J:(ZT (jC l)).length=l.length:=by simp [ZT,jC]
 have ln:lenOf (.isl (ZT (jC l)))=some l.length:=by rw [<-J];rfl
 simp only [zt ln,go_sem]
 refine zC (fun n ρ M=>∃i:Nat,i<=l.length/\n=l.length - i/\ρ 17=.isl (ZT (jC l))/\ρ 18=.int .i64 l.length/\ρ 19=.int .i64 i/\Keep none' L1 M/\ZY 3 L1 M (ρ 5) ((l.take i).map RqV.row))
  ⟨0,od,rfl,by simp only [go_sem],by simp only [go_sem],by simp only [go_sem]<;>rfl,Keep.refl,.inl ⟨by simp only [go_sem],rfl⟩⟩ ?_
 clear h0 h1 ρ
 rintro n ρ M ⟨i,hi,rfl,G,D,u,kM,S⟩
 obtain ⟨v5,h5⟩:∃v,ρ 5=v:=⟨_,rfl⟩
 rw [h5] at S
 by_cases hc:i<l.length
 ·have Y:((i:Int)<(l.length:Int))=True:=tO
  have e0:((0:Int)<=(i:Int))=True:=tO
  obtain ⟨q,hq⟩:∃q,l[i]?=some q:=⟨l[i],List.getElem?_eq_getElem hc⟩
  have ag:q∈l:=List.mem_of_getElem? hq
  have b:=ho q ag
  have Q:=b.plain
  have ak:=b.len
  have n1:(i<(ZT (jC l)).length)=True:=tO
  have gd:(ZT (jC l)).getD i []=[.str q.key,.str q.val]:=by rw [List.getD_eq_getElem?_getD];simp [ZT,jC,hq]
  have ae:Rows 2 (ZT (jC l))=True:=eq_true (fun r B=>by obtain ⟨p,_,rfl⟩:=List.mem_map.1 B;rfl)
  have Z:(q.val.length<=9223372036854775807)=True:=eq_true (by unfold RqV.val;rw [Q.len];omega)
  have w1:IntKind.i64.wrap ((i:Int)+1)=((i+1:Nat):Int):=wR
  simp only [G,D,u,Y,e0,gd,ae,J,Z,Int.toNat_natCast,go_sem]
  refine ⟨hc,?_⟩
  obtain ⟨O,h7⟩:∃O,M.length=O:=⟨_,rfl⟩
  have T:(M++[Blk.cells 2 [[IV.str q.key,IV.str q.val]]]++[Blk.tcells 5 1 (zk q.val)])[O]?=some (.cells 2 [[IV.str q.key,IV.str q.val]]):=by rw [<-h7];simp []
  have k2:Keep none' M (M++[Blk.cells 2 [[IV.str q.key,IV.str q.val]]]++[Blk.tcells 5 1 (zk q.val)]):=Keep.app (Keep.app Keep.refl)
  rw [h7]
  obtain ⟨m,A⟩:∃m,(M++[Blk.cells 2 [[IV.str q.key,IV.str q.val]]]).length=m:=⟨_,rfl⟩
  have gt:(M++[Blk.cells 2 [[IV.str q.key,IV.str q.val]]]++[Blk.tcells 5 1 (zk q.val)])[m]?=some (.tcells 5 1 (zk q.val)):=by rw [<-A];simp
  have n7:m=O+1:=by rw [<-A,<-h7];simp
  rw [A]
  generalize M++[Blk.cells 2 [[IV.str q.key,IV.str q.val]]]++[Blk.tcells 5 1 (zk q.val)]=M1 at *
  refine zh (z9S (args':=[.isl (yI [⟨q.req,q.ans,false⟩])]) gt rfl (z3V gt (by unfold RqV.val;rw [Q.rows])) (z6Y (E:=E.noPan) (o:=⟨q.req,q.ans,false⟩) U rfl (by have:=b.1;show q.req.length<=_;omega) (by have:=b.2;show q.ans.length<=_;omega))) ?_
  rintro r M2' ⟨rfl,rfl⟩
  have k3:Keep none' M (M1.set m .dead):=Keep.set k2 fun h=>by omega
  have T:(M1.set m .dead)[O]?=some (.cells 2 [[IV.str q.key,IV.str q.val]]):=by rw [List.getElem?_set_ne od];exact T
  generalize M1.set m .dead=M2 at *
  have X:lenOf (.isl [[IV.str q.req,IV.str q.ans,IV.bool false]])=some 1:=rfl
  have af:Rows 3 [[IV.str q.req,IV.str q.ans,IV.bool false]]=True:=eq_true (fun r B=>by simp only [List.mem_singleton] at B;subst B;rfl)
  have l7:=zg T
  simp only [h5,zt X,af,T,go_sem]
  refine wI (S.keep k3) (kM.trans k3 fun _ _ h=>h) (by simp;omega) (by decide) (fun r B=>by simp only [List.mem_singleton] at B;subst B;exact ⟨rfl,rfl⟩) (fun w M3 V R=>?_)
  simp only [G,D,u,w1,go_sem]
  have ht:l.take (i+1)=l.take i++[q]:=by rw [List.take_add_one,hq];rfl
  exact ⟨l.length - (i+1),od,i+1,od,rfl,rfl,V,by rw [ht,List.map_append];exact R⟩
 ·have Y:((i:Int)<(l.length:Int))=False:=fO
  simp only [D,u,h5,Y,go_sem]
  have ah:i=l.length:=by omega
  subst ah
  rw [List.take_length] at S
  exact ⟨S,kM⟩
theorem z08 (I:E.P=Tryz.prog) {x s N:Nat} {F:Nat->Prop} {b:Int} {d:KV} {l:List RqV} (v:L[x]?=some (exB s)) (h:zl L s F N b d) (O:d.length<=900000) (u:∀p∈d,p.1.length<=1000) (G:d.list [114,47,48,48,48,47]=jC l) (B:∀q∈l,q.ok) (j:l.length<=100000) :
  XT E 58 [.ptr x 0 0,.int .i64 0] L fun r L'=>r=.isl (l.map RqV.row)/\L'=L:=by
 refine zU (R:=fun r L'=>ZY 3 L L' r (l.map RqV.row)/\Keep none' L L') (jJ I v h O u G B j) ?_
 ·rintro r L' ⟨A,J⟩
  refine ⟨J,_,?_,rfl⟩
  rcases A with ⟨rfl,e⟩ | ⟨g,rfl,M,S,Q⟩
  ·rw [e];rfl
  ·have h1:Zv L.length g=some none:=by simp [Zv];omega
   have h2:(l.map RqV.row).take l.length=l.map RqV.row:=List.take_of_length_le (by simp)
   have D:∀(n:Nat) (m:Ren) (L:List Blk) (q:List RqV),zJ (zJ (conv L (n+1) m)) (q.map RqV.row)=some (q.map RqV.row):=fun n m L q=>by
    induction q with
    | nil=>rfl
    | cons a q w=>simp only [List.map_cons,zJ,w,RqV.row,conv]
   simp [fuel,conv,h1,M,h2,D]
def V5 (l:List RqV) (r:List UInt8):List UInt8 × Bool:=match l.find? fun q=>decide (q.req=r) with
 | some q=>(q.ans,true)
 | none=>([],false)
theorem Jj (Q:E.P=Tryz.prog) {x s N:Nat} {F:Nat->Prop} {m:Int} {d:KV} {l:List RqV} {kn:Option StV} {rq:List UInt8} (Y:L[x]?=some (exB s)) (h:zl L s F N m d) (hN:d.length<=900000) (O:∀p∈d,p.1.length<=1000) (hf:YH d kn) (S:kn.isSome=true) (hl:d.list [114,47,48,48,48,47]=jC l) (ho:∀q∈l,q.ok) (I:l.length<=100000) :
  XT E 15 [.ptr x 0 0,.str faa,.str rq] L fun r L'=>r=.tup [.str (V5 l rq).1,.bool (V5 l rq).2]/\L'=L:=by
 refine zU (R:=fun r L'=>r=.tup [.str (V5 l rq).1,.bool (V5 l rq).2]/\Keep none' L L') ?_ ?_
 rotate_left
 ·rintro r L' ⟨rfl,hk⟩
  exact ⟨hk,_,rfl,rfl⟩
 refine xt3 (fn:=Tryz.f15) (rs:=[.tmp 6,.tmp 7]) (c:=q15) Q fun ρ U h1 h2=>?_
 unfold q15
 simp only [U,h1,go_sem]
 refine zh (YS (E:=E.noPan) Q Y h hN hf) ?_
 rintro r L' ⟨rfl,rfl⟩
 rw [S]
 simp only [U,go_sem]
 refine zh (z08 (E:=E.noPan) Q Y h hN O hl ho I) ?_
 rintro r L1 ⟨rfl,rfl⟩
 have u:(l.map RqV.row).length=l.length:=by simp
 have ln:lenOf (.isl (l.map RqV.row))=some l.length:=by rw [<-u];rfl
 simp only [zt ln,go_sem]
 refine zC (fun n ρ M=>∃i:Nat,i<=l.length/\n=l.length - i/\ρ 2=.str rq/\ρ 22=.isl (l.map RqV.row)/\ρ 23=.int .i64 l.length/\ρ 24=.int .i64 i/\Keep none' L1 M/\(l.take i).find? (fun q=>decide (q.req=rq))=none)
  ⟨0,od,rfl,by simp only [h2,go_sem],by simp only [go_sem],by simp only [go_sem],by simp only [go_sem]<;>rfl,Keep.refl,rfl⟩ ?_
 clear U h1 h2 ρ
 rintro n ρ M ⟨i,hi,rfl,h2,A,v,j,V,b⟩
 by_cases hc:i<l.length
 ·have B:((i:Int)<(l.length:Int))=True:=tO
  have e0:((0:Int)<=(i:Int))=True:=tO
  obtain ⟨q,D⟩:∃q,l[i]?=some q:=⟨l[i],List.getElem?_eq_getElem hc⟩
  have n1:(i<(l.map RqV.row).length)=True:=tO
  have Z:(l.map RqV.row).getD i []=[.str q.key,.str q.req,.str q.ans]:=by rw [List.getD_eq_getElem?_getD];simp [D,RqV.row]
  have w:Rows 3 (l.map RqV.row)=True:=eq_true (fun r hr=>by obtain ⟨p,_,rfl⟩:=List.mem_map.1 hr;rfl)
  have w1:IntKind.i64.wrap ((i:Int)+1)=((i+1:Nat):Int):=wR
  by_cases hqr:q.req=rq
  ·have T:(q.req=rq)=True:=eq_true hqr
   simp only [h2,A,v,j,B,T,e0,Z,w,u,Int.toNat_natCast,go_sem]
   have J:l[i]=q:=by rw [List.getElem?_eq_getElem hc] at D;exact Option.some.inj D
   have ed:l.drop i=q::l.drop (i+1):=by rw [List.drop_eq_getElem_cons hc,J]
   have X:l.find? (fun q=>decide (q.req=rq))=some q:=by
    rw [<-List.take_append_drop i l,List.find?_append,b,ed]
    simp [hqr]
   have ha:V5 l rq=(q.ans,true):=by unfold V5;rw [X]
   rw [ha]
   exact ⟨hc,rfl,Keep.app V⟩
  ·have T:(q.req=rq)=False:=eq_false hqr
   simp only [h2,A,v,j,B,T,e0,Z,w,u,w1,Int.toNat_natCast,go_sem]
   have ht:l.take (i+1)=l.take i++[q]:=by rw [List.take_add_one,D];rfl
   refine ⟨hc,l.length - (i+1),od,i+1,od,rfl,rfl,Keep.app V,?_⟩
   rw [ht,List.find?_append,b]
   simp [hqr]
 ·have B:((i:Int)<(l.length:Int))=False:=fO
  simp only [v,j,B,go_sem]
  have G:i=l.length:=by omega
  subst G
  rw [List.take_length] at b
  have ha:V5 l rq=([],false):=by unfold V5;rw [b]
  rw [ha]
  exact ⟨rfl,V⟩
def zjY : XC :=(sO [oV 4 .nsl] (sO [oV 5 .nsl] (.seq (sO [oM 11 0,oN 12 11,oF 13 0 12,oL 14 13,oM 15 1,oC 16 33 [.t 14,.t 15,(oi 2147483648)],oY 17 16,oI 18 0] (.block 0 (.loop (sO [oB 19 .lss 18 17] (.seq (cT 19 .skip (.exit 0)) (.seq (.block 1 (sO [oO 20 (.idxS 2 (.t 16) (.t 18)),oO 21 (.loadN 2 (.t 20)),oO 7 (.alloc [(.str []),(.str [])]),oU (.store 2 (.t 7) (.t 21))] (sO [oF 23 1 7,oL 24 23,oO 25 (.ex (.strB 5) [.t 24]),oC 26 182 [.t 25],oM 22 26,oX 27 0 22,oX 28 1 22,oX 29 2 22,oO 8 (.alloc [(.int .i64 0),(.raw (.complex .f64 0 0)),(.str []),(.str []),(.int .i64 0),(.int .i64 0),(.int .i64 0),(.str []),(.str []),(.str []),(.str []),(.str []),(.int .i64 0)]),oU (.store 13 (.t 8) (.t 27)),oM 9 28,oM 10 29] (.ops [oM 30 5,oO 31 (.loadN 13 (.t 8)),oO 32 (.bslice 13 [(.int .i64 0),(.raw (.complex .f64 0 0)),(.str []),(.str []),(.int .i64 0),(.int .i64 0),(.int .i64 0),(.str []),(.str []),(.str []),(.str []),(.str []),(.int .i64 0)] 1 [(0,(.t 31))]),oO 33 (.append 13 168 (.t 30) (.t 32)),oM 5 33])))) (.ops [oK 34 .add 18 1,oM 18 34]))))))) (sO [oM 35 5,oM 4 35] .ret))))
def q50 : XC :=(sO [oV 2 .nsl] (sO [oM 3 0,oO 4 (.call (.f 123) [.t 3,(.c (.str [100,47]))]),oM 2 4] .ret))
theorem Zf.ok.plain {t:Zf} (h:t.ok):Plain t.bytes:=by
 obtain ⟨⟨q,r⟩,b,m,p,j,d⟩:=h
 have np:=fun (x:Nat) (l:x<=4503599627370496)=>yD (n:=x) od
 unfold Zf.bytes
 refine (((((np _ od).app ((np _ b.1).app (np _ b.2.1))).app ?_).app (np _ j)).app (np _ d)).app (np _ od)
 simp only [List.flatMap_cons,List.flatMap_nil,List.append_nil]
 exact (Y9 od).app (Y9 od)
theorem Zf.ok.len {t:Zf} (h:t.ok):t.bytes.length<=t.flow.length+t.node.length+64:=by
 obtain ⟨⟨s,v⟩,b,m,p,j,d⟩:=h
 have t1:=zZ t.flow od
 have t2:=zZ t.node od
 have q:=Z5 (n:=t.kind) od
 have w:=Z5 j
 have r:=Z5 d
 have A:=Z5 b.1
 have u:=Z5 b.2.1
 have l:=Z5 (n:=0) od
 simp only [Zf.bytes,lla,List.flatMap_cons,List.flatMap_nil,lln]
 omega
def z8i (l:List (List UInt8 × Zf)):KV:=l.map fun q=>(q.1,strOf q.2.bytes)
def Yh (l:List (List UInt8 × Zf)):List (List IV):=l.map fun q=>q.2.rcells
theorem z3L (hP:E.P=Tryz.prog) {x s N:Nat} {F:Nat->Prop} {u:Int} {d:KV} {l:List (List UInt8 × Zf)} {pre:List UInt8} (hx:L[x]?=some (exB s)) (h:zl L s F N u d) (hN:d.length<=900000) (D:pre.length<=1000) (ae:∀p∈d,p.1.length<=1000) (hl:d.list pre=z8i l) (ho:∀q∈l,q.2.ok) (ax:l.length<=100000) :
  XT E 123 [.ptr x 0 0,.str pre] L fun r L'=>ZY 13 L L' r (Yh l)/\Keep none' L L':=by
 have lx:=zg hx
 have B:=hx
 unfold exB at B
 refine xt2 (fn:=Tryz.f123) (rs:=[.tmp 4]) (c:=zjY) hP fun ρ h0 h1=>?_
 unfold zjY
 simp only [h0,h1,B,go_sem]
 refine zh (Jw (E:=E.noPan) hP h hN D ae) ?_
 rintro r L1 ⟨rfl,rfl⟩
 rw [hl]
 have I:(ZT (z8i l)).length=l.length:=by simp [ZT,z8i]
 have ln:lenOf (.isl (ZT (z8i l)))=some l.length:=by rw [<-I];rfl
 simp only [zt ln,go_sem]
 refine zC (fun n ρ M=>∃i:Nat,i<=l.length/\n=l.length - i/\ρ 16=.isl (ZT (z8i l))/\ρ 17=.int .i64 l.length/\ρ 18=.int .i64 i/\Keep none' L1 M/\ZY 13 L1 M (ρ 5) (Yh (l.take i)))
  ⟨0,od,rfl,by simp only [go_sem],by simp only [go_sem],by simp only [go_sem]<;>rfl,Keep.refl,.inl ⟨by simp only [go_sem],rfl⟩⟩ ?_
 clear h0 h1 ρ
 rintro n ρ M ⟨i,hi,rfl,G,m,A,kM,O⟩
 obtain ⟨v5,Y⟩:∃v,ρ 5=v:=⟨_,rfl⟩
 rw [Y] at O
 by_cases hc:i<l.length
 ·have V:((i:Int)<(l.length:Int))=True:=tO
  have e0:((0:Int)<=(i:Int))=True:=tO
  obtain ⟨q,Z⟩:∃q,l[i]?=some q:=⟨l[i],List.getElem?_eq_getElem hc⟩
  have af:q∈l:=List.mem_of_getElem? Z
  have b:=ho q af
  have J:=b.plain
  have aj:=b.len
  have au:=b.2.2.1
  have ak:=b.2.2.2.1
  have n1:(i<(ZT (z8i l)).length)=True:=tO
  have gd:(ZT (z8i l)).getD i []=[.str q.1,.str (strOf q.2.bytes)]:=by rw [List.getD_eq_getElem?_getD];simp [ZT,z8i,Z]
  have T:Rows 2 (ZT (z8i l))=True:=eq_true (fun r Q=>by obtain ⟨p,_,rfl⟩:=List.mem_map.1 Q;rfl)
  have ag:((strOf q.2.bytes).length<=9223372036854775807)=True:=eq_true (by rw [J.len];omega)
  have w1:IntKind.i64.wrap ((i:Int)+1)=((i+1:Nat):Int):=wR
  simp only [G,m,A,V,e0,gd,T,I,ag,Int.toNat_natCast,go_sem]
  refine ⟨hc,?_⟩
  refine Yr (args':=[.isl q.2.bytes]) ?_ (z2i (E:=E.noPan) hP b) rfl rfl ?_
  ·rw [WB rfl,J.rows]
  have R:cellsOf (.agg q.2.rcells)=q.2.rcells:=rfl
  have ai:q.2.rcells.length=13:=rfl
  have ah:q.2.rcells.all zG=true:=rfl
  have X:q.2.rcells.take 13=q.2.rcells:=rfl
  simp only [Y,R,ai,ah,X,go_sem]
  have k3:Keep none' M (M++[Blk.cells 2 [[IV.str q.1,IV.str (strOf q.2.bytes)]]]++[Blk.tcells 5 1 (zk (strOf q.2.bytes))]++[Blk.cells 13 [q.2.rcells]]):=Keep.app (Keep.app (Keep.app Keep.refl))
  refine wI (O.keep k3) (kM.trans k3 fun _ _ h=>h) (by simp [Yh];omega) (by decide) (fun r Q=>by simp only [List.mem_singleton] at Q;subst Q;exact ⟨rfl,rfl⟩) (fun w M3 U j=>?_)
  simp only [G,m,A,w1,go_sem]
  have ht:l.take (i+1)=l.take i++[q]:=by rw [List.take_add_one,Z];rfl
  exact ⟨l.length - (i+1),od,i+1,od,rfl,rfl,U,by rw [ht];unfold Yh at j ⊢;rw [List.map_append];exact j⟩
 ·have V:((i:Int)<(l.length:Int))=False:=fO
  simp only [m,A,Y,V,go_sem]
  have S:i=l.length:=by omega
  subst S
  rw [List.take_length] at O
  exact ⟨O,kM⟩
theorem z5Z (M:E.P=Tryz.prog) {x s N:Nat} {F:Nat->Prop} {b:Int} {d:KV} {l:List (List UInt8 × Zf)} {pre:List UInt8} (w:L[x]?=some (exB s)) (h:zl L s F N b d) (S:d.length<=900000) (j:pre.length<=1000) (v:∀p∈d,p.1.length<=1000) (J:d.list pre=z8i l) (D:∀q∈l,q.2.ok) (u:l.length<=100000) :
  XT E 123 [.ptr x 0 0,.str pre] L fun r L'=>r=.isl (Yh l)/\L'=L:=by
 refine zU (R:=fun r L'=>ZY 13 L L' r (Yh l)/\Keep none' L L') (z3L M w h S j v J D u) ?_
 ·rintro r L' ⟨B,O⟩
  refine ⟨O,_,?_,rfl⟩
  rcases B with ⟨rfl,e⟩ | ⟨g,rfl,Q,U,T⟩
  ·rw [e];rfl
  ·have h1:Zv L.length g=some none:=by simp [Zv];omega
   have G:(Yh l).length=l.length:=by simp [Yh]
   have h2:(Yh l).take (Yh l).length=Yh l:=List.take_length
   have I:∀(n:Nat) (m:Ren) (L:List Blk) (q:List (List UInt8 × Zf)),zJ (zJ (conv L (n+1) m)) (Yh q)=some (Yh q):=fun n m L q=>by
    unfold Yh
    induction q with
    | nil=>rfl
    | cons a q A=>
     have e1:zJ (conv L (n+1) m) a.2.rcells=some a.2.rcells:=rfl
     simp only [List.map_cons,zJ,A,e1]
   simp [fuel,conv,h1,Q,h2,I]
theorem Vu (u:E.P=Tryz.prog) {x s N:Nat} {F:Nat->Prop} {b:Int} {d:KV} {l:List (List UInt8 × Zf)} (v:L[x]?=some (exB s)) (h:zl L s F N b d) (B:d.length<=900000) (m:∀p∈d,p.1.length<=1000) (A:d.list [100,47]=z8i l) (w:∀q∈l,q.2.ok) (j:l.length<=100000) :
  XT E 50 [.ptr x 0 0] L fun r L'=>r=.isl (Yh l)/\L'=L:=by
 refine xt1 (fn:=Tryz.f50) (rs:=[.tmp 2]) (c:=q50) u fun ρ D=>?_
 unfold q50
 simp only [D,go_sem]
 refine zh (z5Z (E:=E.noPan) u v h B (by decide) m A w j) ?_
 rintro r L' ⟨rfl,rfl⟩
 simp only [go_sem]
theorem zbL {u v r:Value} {KV:IV->List Blk->Prop} (h:wE .add u v=some (.raw r)):xop E (.bin .add (.c (.raw u)) (.c (.raw v))) cev L KV=KV (.raw r) L:=by
 simp only [xop,VM,Z9,h,sij,exists_eq_left']
theorem zdO {KV:IV->List Blk->Prop} {k:IntKind} {s:FloatKind} {b g:Nat} {n:Int} (h:floatToIntVal s b k=some n):xex E (.ru (.toInt k)) [.raw (.float s b)] g L KV=KV (.int k n) L:=by
 simp only [xex,z4G,h,Option.map_some,sij,exists_eq_left']
theorem zac (d:E.P=Tryz.prog) {c t s n m:Nat} (hc:L[c]?=some (Wu t s n (fl n) (fl m) true)) (h:m<65):XT E 57 [.ptr c 0 0] L fun r L'=>r=.int .i64 m/\L'=L:=by
 have l:=zg hc
 unfold Wu at hc
 have b:=zfA m h
 refine xt1 (fn:=Tryz.f57) (rs:=[.tmp 2]) (c:=q57) d fun ρ j=>?_
 unfold q57
 simp only [j,hc,zdO b,go_sem]
theorem zeB (h:E.P=Tryz.prog) {c t s n m:Nat} (hc:L[c]?=some (Wu t s n (fl n) (fl m) true)) (u:n<65) (v:m<64) :
  XT E 112 [.ptr c 0 0] L fun r L'=>r=.tup [.raw (.complex .f64 (fl n) (fl (m+1))),.int .i64 0]/\L'=L.set c (Wu t s n (fl n) (fl (m+1)) true):=by
 have l:=zg hc
 have d:=hc
 unfold Wu at hc
 have p:wE .add (.complex .f64 (fl n) (fl m)) (.complex .f64 0 4607182418800017408)=some (.raw (.complex .f64 (fl n) (fl (m+1)))):=by
  have e:=zb8 (a:=n) (b:=m) u v
  rw [z8P,z5u] at e
  simp [wE,e]
 have q:((4503599627370496:Int)<=(m:Int))=False:=fO
 refine xt1 (fn:=Tryz.f112) (rs:=[.tmp 2,.tmp 3]) (c:=zkR) h fun ρ j=>?_
 unfold zkR
 simp only [j,hc,go_sem]
 refine zh (zac (E:=E.noPan) h d od) ?_
 rintro r L1 ⟨rfl,rfl⟩
 simp only [j,hc,l,q,zbL p,go_sem]
 exact ⟨rfl,rfl⟩
def Zf.withId (t:Zf) (re im:Nat):Zf:=⟨t.kind,re,im,fl re,fl im,t.flow,t.node,t.try_,t.at_⟩
theorem z7S (d:E.P=Tryz.prog) {g:Nat} {cs:List IV} (hg:L[g]?=some (.cells 13 [cs])) (hc:yz 13 [cs]):XT E 111 [.sl g 0 1 1] L fun r L'=>∃b,r=.sl b 0 1 1/\L.length<=b/\L'[b]?=some (.cells 13 [cs])/\Keep none' L L':=by
 refine xt1 (fn:=Tryz.f111) (rs:=[.tmp 2]) (c:=zgN) d fun ρ l=>?_
 unfold zgN
 simp only [l,go_sem]
 have j:=zf hg
 refine ⟨?_,fun h=>h.elim⟩
 refine yh (rows:=[]) (n:=0) (by simp) rfl (Zd (Zu hg) rfl) hc (by simp) (by simp) ?_
 simp only [go_sem]
 refine ⟨_,rfl,by simp,?_,Keep.app (Keep.app Keep.refl)⟩
 rw [List.getElem?_append_right (by simp)]
 simp
theorem z8M (O:E.P=Tryz.prog) {L0:List Blk} {b x c t s n m g:Nat} {l:List OpV} {sz:Int} {tk:Zf} (ah:E.gl 6=some dbT) (hB:Yg L0 L b x l sz) (hc:L0[c]?=some (Wu t s n (fl n) (fl m) true)) (af:L[c]?=some (Wu t s n (fl n) (fl m) true)) (hg:L[g]?=some (.cells 13 [tk.cells]))
  (ht:(tk.withId n (m+1)).ok) (D:tk.kind=1) (hn:n<65) (hm:m<64) (hl:l.length<=1000) :
  XT E 47 [.ptr b 0 0,.ptr c 0 0,.sl g 0 1 1] L fun r L'=>∃d,r=.tup [.sl d 0 1 1,.int .i64 0]/\L'[d]?=some (.cells 13 [(tk.withId n (m+1)).cells])/\L'[c]?=some (Wu t s n (fl n) (fl (m+1)) true)/\
   ∃F,ZF L' b x (l++[⟨dpK n (m+1),strOf (tk.withId n (m+1)).bytes,false⟩]) sz F/\(∀u,F u->L0.length<=u)/\Keep (fun u=>u=c) L0 L'/\¬F d/\L0.length<=d:=by
 refine xt3 (fn:=Tryz.f47) (rs:=[.tmp 6,.tmp 7]) (c:=q47) O fun ρ R h1 h2=>?_
 unfold q47
 simp only [h2,go_sem]
 refine zh (z7S (E:=E.noPan) O hg (fun r hr=>by simp only [List.mem_singleton] at hr;subst hr;exact ⟨rfl,rfl⟩)) ?_
 rintro r L1 ⟨d,rfl,hgl,gg,S⟩
 have I:=S.get af fun h=>h
 have az:=hB.keep S
 have ln:lenOf (.sl d 0 1 1)=some 1:=rfl
 simp only [zt ln,go_sem]
 refine zC (fun q ρ M=>(q=1/\M=L1/\ρ 0=.ptr b 0 0/\ρ 1=.ptr c 0 0/\ρ 8=.sl d 0 1 1/\ρ 18=.int .i64 1/\ρ 19=.int .i64 0)\/(q=0/\ρ 8=.sl d 0 1 1/\ρ 18=.int .i64 1/\ρ 19=.int .i64 1/\M[d]?=some (.cells 13 [(tk.withId n (m+1)).cells])/\M[c]?=some (Wu t s n (fl n) (fl (m+1)) true)/\
   ∃F,ZF M b x (l++[⟨dpK n (m+1),strOf (tk.withId n (m+1)).bytes,false⟩]) sz F/\(∀u,F u->L0.length<=u)/\Keep (fun u=>u=c) L0 M/\¬F d/\L0.length<=d))
  (.inl ⟨rfl,rfl,by simp only [R,go_sem],by simp only [h1,go_sem],by simp only [go_sem],by simp only [go_sem],by simp only [go_sem]⟩) ?_
 clear R h1 h2 ρ
 rintro q ρ M (⟨rfl,rfl,R,h1,Y,w,v⟩ | ⟨rfl,Y,w,v,j1,j2,j3⟩)
 rotate_left
 ·simp only [Y,w,v,go_sem]
  exact ⟨_,rfl,j1,j2,j3⟩
 have lg:=zg gg
 have j:=gg
 unfold Zf.cells at j
 rw [D] at j
 simp only [h1,Y,w,v,j,go_sem]
 refine zh (zeB (E:=E.noPan) O I hn hm) ?_
 rintro r M1 ⟨rfl,rfl⟩
 obtain ⟨F,b1,b2,X⟩:=hB
 have au:=zf hc
 have Q:(c=d)=False:=eq_false (by have:=X.1;omega)
 have aj:zG (.raw (.complex .f64 (fl n) (fl (m+1))))=true:=rfl
 have ae:=zf gg
 have ay:=zg I
 simp only [j,lg,Q,aj,go_sem]
 obtain ⟨M2,p⟩:∃M2,(M.set c (Wu t s n (fl n) (fl (m+1)) true)).set d (.cells 13 [(tk.withId n (m+1)).cells])=M2:=⟨_,rfl⟩
 have U:(M.set c (Wu t s n (fl n) (fl (m+1)) true)).set d (.cells 13 [[.int .i64 1,.raw (.complex .f64 (fl n) (fl (m+1))),.str tk.flow,.str tk.node,.int .i64 tk.try_,.int .i64 tk.at_,.int .i64 0,.str [],.str [],.str [],.str [],.str [],.int .i64 0]])=M2:=by
  rw [<-p];unfold Zf.cells Zf.withId;rw [D];rfl
 have Z:M2[d]?=some (.cells 13 [(tk.withId n (m+1)).cells]):=by rw [<-p,List.getElem?_set_self (by rw [lls];exact ae)]
 have c2:M2[c]?=some (Wu t s n (fl n) (fl (m+1)) true):=by rw [<-p,List.getElem?_set_ne (fun h=>of_eq_false Q h.symm),List.getElem?_set_self (zf I)]
 have A:Keep (fun u=>u=c\/u=d) M M2:=by rw [<-p];exact Keep.set (Keep.set Keep.refl fun _=>.inl rfl) fun _=>.inr rfl
 rw [U]
 have eC:[IV.int .i64 1,.raw (.complex .f64 (fl n) (fl (m+1))),.str tk.flow,.str tk.node,.int .i64 tk.try_,.int .i64 tk.at_,.int .i64 0,.str [],.str [],.str [],.str [],.str [],.int .i64 0]=(tk.withId n (m+1)).cells:=by unfold Zf.cells Zf.withId;rw [D];rfl
 have T:=Z
 rw [<-eC] at T
 have l2:=zg Z
 rw [eC]
 refine zh (z8Z (E:=E.noPan) O ht) ?_
 rintro r M3 ⟨rfl,rfl⟩
 have ag:=ht.plain
 have B:=ht.2.1
 simp only [R,T,go_sem]
 refine zi (args':=[.raw (.complex .f64 (fl n) (fl (m+1)))]) rfl (jS (E:=E.noPan) O ah B.1 B.2.1 B.2.2) rfl ?_
 simp only [go_sem]
 have ak:¬F c:=fun h=>by have:=b2 c h;omega
 have J:¬F d:=fun h=>by have:=b1.lt.2.2 d h;omega
 have ai:=b1.keep ((S.mono (F':=fun u=>u=c\/u=d) fun _ _ h=>h.elim).trans A fun _ _ h=>h) (fun u h1 h2=>by rcases h2 with rfl | rfl<;>contradiction)
 refine zh (z4I (E:=E.noPan) (s:=strOf (tk.withId n (m+1)).bytes) O ai (fun M _=>ag.str) od) ?_
 rintro r M4 ⟨rfl,⟨F4,b4,V⟩,G⟩
 have w1:IntKind.i64.wrap (0+1)=1:=by decide
 simp only [YF,R,h1,Y,w,v,go_sem]
 have ax:¬F d:=J
 refine ⟨0,od,.inr ⟨rfl,G.get Z J,G.get c2 ak,F4,b4,fun u hu=>?_,?_,fun h=>?_,?_⟩⟩
 ·rcases V u hu with h | h
  ·exact b2 u h
  ·have:=X.1
   have:=S.1
   have:=A.1
   omega
 ·have q1:Keep (fun u=>u=c) L0 M:=(X.trans S fun _ _ h=>h).mono fun _ _ h=>h.elim
  have q2:Keep (fun u=>u=c) L0 M3:=q1.trans A fun u hu h=>by
   rcases h with h | h
   ·exact h
   ·have:=X.1;omega
  exact q2.trans G fun u hu h=>by have:=b2 u h;omega
 ·rcases V _ h with h | h
  ·exact J h
  ·have:=zf Z;omega
 ·have:=X.1;omega
def q48 : XC :=(sO [oO 4 (.box (.t 0)),oO 6 (.box (.t 2))] (sO [oL 14 4,oN 15 14,oF 16 0 15,oL 17 16,oM 18 1,oC 19 58 [.t 17,.t 18],oM 8 19,oI 9 0] (.seq (sO [oM 20 8,oY 21 20,oK 22 .gtr 21 0] (cT 22 (.seq (.drawE [oM 24 8,oM 25 8,oY 26 25,oK 27 .sub 26 1,oO 28 (.idxS 3 (.t 24) (.t 27)),oF 29 0 28,oL 30 29,oM 31 1,oQ 32 116 [.t 31],oO 33 (.lenS (.t 32)),oO 34 (.sliceS (.t 30) (some (.t 33)) none),oQ 35 115 [.t 34,(oi 16),(oi 64)],oM 23 35,oX 36 0 23,oX 37 1 23,oM 10 36,oM 11 37]) (.ops [oM 38 10,oK 39 .add 38 1,oM 9 39])) .skip)) (sO [oM 40 8,oO 41 (.mkfn (.func 118) [] [.t 6,.t 4]),oC 42 117 [.t 40,.t 41],oM 8 42] (.seq (.block 0 (.loop (.seq (sO [oM 43 8,oY 44 43,oK 45 .geq 44 64] (cT 45 .skip (.exit 0))) (.block 1 (.seq (.drawE [oL 46 4,oM 47 8,oO 48 (.idxS 3 (.t 47) (oi 0)),oF 49 0 48,oL 50 49,oC 51 119 [.t 46,.t 50]]) (.ops [oM 52 8,oO 53 (.slice 3 (.t 52) (some (oi 1)) none),oM 8 53])))))) (sO [oL 55 6,oM 56 3,oO 57 (.build [(.str []),(.str []),(.bool false)] [(0,(1,(.t 55))),(1,(1,(.t 56)))]),oO 58 (.bslice 3 [(.str []),(.str []),(.bool false)] 1 [(0,(.t 57))]),oC 59 120 [.t 58],oM 54 59,oX 60 0 54,oX 61 1 54,oM 12 60,oM 13 61] (.drawE [oL 62 4,oM 63 1,oM 64 9,oQ 65 121 [.t 63,.t 64],oM 66 12,oC 67 41 [.t 62,.t 65,.t 66]])))))))
def zeW : XC :=(sO [oV 4 .nsl] (sO [oM 8 0,oM 9 1,oC 10 180 [.t 8,.t 9],oM 5 10] (.seq (sO [oM 11 5,oO 12 (.bin .eql (.t 11) (.c (.int .i64 (-1))))] (cT 12 (sO [oM 13 0,oM 4 13] .ret) .skip)) (.seq (sO [oM 14 5,oK 15 .add 14 1,oM 6 15] (.block 0 (.loop (.seq (sO [oM 16 6,oM 17 0,oY 18 17,oB 19 .lss 16 18] (cT 19 .skip (.exit 0))) (.seq (.block 1 (sO [oM 22 0,oM 23 6,oO 24 (.idxS 3 (.t 22) (.t 23)),oO 25 (.loadN 3 (.t 24)),oO 7 (.alloc [(.str []),(.str []),(.str [])]),oU (.store 3 (.t 7) (.t 25))] (sO [oM 26 1,oO 27 (.loadN 3 (.t 7)),oO 28 (.call (.t 26) [.t 27]),oO 29 (.un .not (.t 28))] (cT 29 (sO [oM 30 0,oM 31 5,oO 32 (.loadN 3 (.t 7)),oO 33 (.idxS 3 (.t 30) (.t 31)),oU (.store 3 (.t 33) (.t 32))] (.ops [oM 34 5,oK 35 .add 34 1,oM 5 35])) .skip)))) (.ops [oM 20 6,oK 21 .add 20 1,oM 6 21])))))) (sO [oM 36 0,oM 37 5,oO 38 (.slice 3 (.t 36) (some (.t 37)) none),oU (.ex (.clr [(.str []),(.str []),(.str [])]) [.t 38])] (sO [oM 39 0,oM 40 5,oO 41 (.slice 3 (.t 39) none (some (.t 40))),oM 4 41] .ret))))))
def zeR : XC :=(sO [oI 4 0] (.seq (sO [oM 6 0,oY 7 6,oI 8 0] (.block 0 (.loop (sO [oB 9 .lss 8 7] (.seq (cT 9 .skip (.exit 0)) (.seq (.block 1 (sO [oM 10 8,oM 5 10] (sO [oM 11 1,oM 12 0,oM 13 5,oO 14 (.idxS 3 (.t 12) (.t 13)),oO 15 (.loadN 3 (.t 14)),oO 16 (.call (.t 11) [.t 15])] (cT 16 (sO [oM 17 5,oM 4 17] .ret) .skip)))) (.ops [oK 18 .add 8 1,oM 8 18]))))))) (sO [oO 4 (.mov (.c (.int .i64 (-1))))] .ret)))
theorem zaA (j:E.P=Tryz.prog) {f:IV}:XT E 180 [.isl [],f] L fun r L'=>r=.int .i64 (-1)/\L'=L:=by
 refine xt2 (fn:=Tryz.f180) (rs:=[.tmp 4]) (c:=zeR) j fun ρ b h1=>?_
 unfold zeR
 have d:lenOf (.isl [])=some 0:=rfl
 simp only [b,zt d,go_sem]
 refine zC (fun n ρ M=>n=0/\M=L/\ρ 7=.int .i64 0/\ρ 8=.int .i64 0) ⟨rfl,rfl,by simp only [go_sem]<;>rfl,by simp only [go_sem]⟩ ?_
 clear b h1 ρ
 rintro n ρ M ⟨rfl,rfl,l,h⟩
 simp only [l,h,go_sem]
theorem z7U (b:E.P=Tryz.prog) {f:IV}:XT E 117 [.isl [],f] L fun r L'=>r=.isl []/\L'=L:=by
 refine xt2 (fn:=Tryz.f117) (rs:=[.tmp 4]) (c:=zeW) b fun ρ d h1=>?_
 unfold zeW
 simp only [d,h1,go_sem]
 refine zh (zaA (E:=E.noPan) b) ?_
 rintro r L' ⟨rfl,rfl⟩
 simp only [d,go_sem]
theorem z1U (G:E.P=Tryz.prog) {b x s N:Nat} {F FB:Nat->Prop} {w:Int} {d:KV} {l:List OpV} {sz:Int} {rq an:List UInt8} (Y:E.gl 6=some dbT) (hB:ZF L b x l sz FB) (hx:L[x]?=some (exB s)) (h:zl L s F N w d) (hN:d.length<=900000) (ae:∀p∈d,p.1.length<=1000) (hd:d.list [114,47,48,48,48,47]=[])
  (hr:rq.length<=5000) (ha:an.length<=5000) (hl:l.length<=1000) :
  XT E 48 [.ptr b 0 0,.int .i64 0,.str rq,.str an] L fun r L'=>r=.tup []/\(∃F',ZF L' b x (l++[⟨rqK 0,strOf (yI [⟨rq,an,false⟩]),false⟩]) sz F'/\Grown FB F' L L')/\Keep FB L L':=by
 have V:∃v m,L[b]?=some (.cells 5 [[.ptr x 0 0,v,.mp m,.int .i64 sz,.bool false]]):=by
  obtain ⟨v,m,h1,_⟩:=id hB
  exact ⟨v,m,h1⟩
 obtain ⟨v,m,hb⟩:=V
 have ag:=zf hb
 have A:=RqV.ok.plain (q:=⟨[],rq,an⟩) ⟨hr,ha⟩
 refine xt4 (fn:=Tryz.f48) (rs:=[]) (c:=q48) G fun ρ h0 h1 h2 S=>?_
 unfold q48
 simp only [h0,h2,go_sem]
 obtain ⟨t4,D⟩:∃t,L.length=t:=⟨_,rfl⟩
 obtain ⟨t6,j⟩:∃t,(L++[Blk.cells 1 [[IV.ptr b 0 0]]]).length=t:=⟨_,rfl⟩
 have n6:t6=t4+1:=by rw [<-j,<-D];simp
 have T:Keep none' L (L++[Blk.cells 1 [[IV.ptr b 0 0]]]++[Blk.cells 1 [[IV.str rq]]]):=Keep.app (Keep.app Keep.refl)
 have g4:(L++[Blk.cells 1 [[IV.ptr b 0 0]]]++[Blk.cells 1 [[IV.str rq]]])[t4]?=some (.cells 1 [[.ptr b 0 0]]):=by rw [<-D];simp []
 have g6:(L++[Blk.cells 1 [[IV.ptr b 0 0]]]++[Blk.cells 1 [[IV.str rq]]])[t6]?=some (.cells 1 [[.str rq]]):=by rw [<-j];simp
 rw [D,j]
 generalize L++[Blk.cells 1 [[IV.ptr b 0 0]]]++[Blk.cells 1 [[IV.str rq]]]=L1 at *
 have I:=T.get hb fun h=>h
 have ak:=zg I
 have l4:=zg g4
 have l6:=zg g6
 simp only [h1,I,go_sem]
 refine zh (z08 (E:=E.noPan) (l:=[]) G (T.get hx fun h=>h) (h.keep T fun _ _ h=>h) hN ae hd (fun q hq=>nomatch hq) (by decide)) ?_
 rintro r L2 ⟨rfl,rfl⟩
 have ln:lenOf (.isl (List.map RqV.row []))=some 0:=rfl
 have U:lenOf (.isl [])=some 0:=rfl
 simp only [go_sem]
 refine zh (z7U (E:=E.noPan) G) ?_
 rintro r L3 ⟨rfl,rfl⟩
 simp only [go_sem]
 refine zC (fun n ρ M=>n=0/\M=L3/\ρ 1=.int .i64 0/\ρ 3=.str an/\ρ 4=.ptr t4 0 0/\ρ 6=.ptr t6 0 0/\ρ 8=.isl []/\ρ 9=.int .i64 0) ⟨rfl,rfl,by simp only [h1,go_sem],by simp only [S,go_sem],by simp only [go_sem],by simp only [go_sem],by simp only [go_sem],by simp only [go_sem]⟩ ?_
 clear h0 h1 h2 S ρ
 rintro n ρ L3 ⟨rfl,rfl,h1,S,h4,h6,h8,h9⟩
 simp only [S,h6,h8,zt U,g6,go_sem]
 obtain ⟨ob,Q⟩:∃ob,L3.length=ob:=⟨_,rfl⟩
 have k3:Keep none' L3 (L3++[Blk.cells 3 [[IV.str rq,IV.str an,IV.bool false]]]):=Keep.app Keep.refl
 have go:(L3++[Blk.cells 3 [[IV.str rq,IV.str an,IV.bool false]]])[ob]?=some (.cells 3 (zB [⟨rq,an,false⟩])):=by rw [<-Q];simp [zB,OpV.row]
 rw [Q]
 generalize L3++[Blk.cells 3 [[IV.str rq,IV.str an,IV.bool false]]]=L4 at *
 refine zh (z9N (E:=E.noPan) (l:=[⟨rq,an,false⟩]) G go (by simp) (fun o ho=>by simp only [List.mem_singleton] at ho;subst ho;exact ⟨by show rq.length<=_;omega,by show an.length<=_;omega,fun h=>by cases h⟩)) ?_
 rintro r L5 ⟨v5,rfl,⟨g5,rfl,ah,O,ai⟩,k5⟩
 have R:Keep none' L3 L5:=k3.trans k5 fun _ _ h=>h
 have J:=R.get g4 fun h=>h
 have aj:=zg J
 simp only [h1,h4,h9,J,go_sem]
 refine zY (args':=[.int .i64 0,.int .i64 0]) rfl (WP (E:=E.noPan) (i:=0) G Y (by decide)) (fun _=>rfl) ?_
 simp only [go_sem]
 have af:(yI [⟨rq,an,false⟩]).length=(strOf (yI [⟨rq,an,false⟩])).length:=A.len.symm
 have B:Keep none' L L5:=T.trans R fun _ _ h=>h
 refine zh (z4I (E:=E.noPan) (s:=strOf (yI [⟨rq,an,false⟩])) G (hB.keep B fun _ _ h=>h) (fun M hM=>?_) od) ?_
 ·show (rowsOf M (.sl g5 0 (yI [⟨rq,an,false⟩]).length (yI [⟨rq,an,false⟩]).length)).bind (zJ byteOf)=some (strOf (yI [⟨rq,an,false⟩]))
  rcases O with Z | Z
  ·rw [ZM (hM.get Z fun h=>h) rfl];exact A.str
  ·rw [wL (hM.get Z fun h=>h) rfl];exact A.str
 rintro r L6 ⟨rfl,⟨F6,b6,X⟩,k6⟩
 simp only [go_sem]
 refine ⟨⟨F6,b6,fun u hu=>?_⟩,(B.mono (F':=FB) fun _ _ h=>h.elim).trans k6 fun _ _ h=>h⟩
 rcases X u hu with h | h
 ·exact .inl h
 ·right;have:=B.1;omega
theorem EvV.ok.plain {e:EvV} (h:e.ok):Plain e.bytes:=by
 obtain ⟨l,p,m,d,j,b⟩:=h
 unfold EvV.bytes
 refine (Plain.app (yD od) ?_).app (yD (by unfold wO;split<;>omega))
 simp only [List.flatMap_cons,List.flatMap_nil,List.append_nil]
 exact (Y9 od).app (Y9 od)
def zbW (ex:Nat) (e:EvV) (st:StV) (tk:Zf) (rq an:List UInt8):List OpV:=
 [⟨evK ex,strOf e.bytes,false⟩,⟨[110,47,48,48,48],faa,false⟩,⟨[115,47,48,48,48],strOf st.bytes,false⟩,⟨dpK tk.re tk.im,strOf tk.bytes,false⟩,⟨rqK 0,strOf (yI [⟨rq,an,false⟩]),false⟩]
theorem zbq (A:E.P=Tryz.prog) {x s c t n m N Z gt:Nat} {F:Nat->Prop} {d:KV} {kn:Option StV} {st:StV} {e:EvV} {tk:Zf} {ex:Nat} {rq an:List UInt8} (ay:E.gl 6=some dbT) (hx:L[x]?=some (exB s)) (hc:L[c]?=some (Wu t s n (fl n) (fl m) true)) (hS:zl L s F N n d) (bu:¬F c)
  (hN:d.length<=800000) (hN2:N+1000000<=1099511627776) (qo:∀p∈d,p.1.length<=1000) (hf:YH d kn) (dw:st.ok) (qc:(kn.getD Vl).ev=ex) (uz:st.ev=ex+1) (hsz:ex<=1000000) (hd:d.list [114,47,48,48,48,47]=[])
  (he:e.ok) (qf:L[Z]?=some (.cells 4 [e.cells])) (di:tk.ok) (ag:(tk.withId n (m+1)).ok) (ax:tk.kind=1) (lm:L[gt]?=some (.cells 13 [tk.cells])) (hn:n<65) (hm:m<64) (l7:rq≠[]) (lu:rq.length<=256) (uj:an.length<=4096)
  (uq:e.bytes.length+st.bytes.length+tk.bytes.length<=65000) (ul:(tk.withId n (m+1)).bytes.length<=65000) :
  XT E 10 [.ptr x 0 0,.ptr c 0 0,.agg (z2s ex (.sl Z 0 1 1) st (.sl gt 0 1 1) rq an 0 0)] L fun r L'=>∃g',r=.tup [.sl g' 0 1 1,.int .i64 0]/\L'[g']?=some (.cells 13 [(tk.withId n (m+1)).cells])/\L'[c]?=some (Wu t s n (fl n) (fl (m+1)) true)/\
   (∃F',zl L' s F' (N+1000000) n (d.puts (zbW ex e st (tk.withId n (m+1)) rq an))/\Grown F F' L L')/\Keep (fun u=>u=c\/F u) L L':=by
 refine xt3 (fn:=Tryz.f10) (rs:=[.tmp 6,.tmp 7]) (c:=q10) A fun ρ I h1 h2=>?_
 unfold q10
 have ni:cellsOf (.agg [.str faa,.int .i64 ex,.sl Z 0 1 1,.str st.dfn,.str st.id,.str st.par,.str st.pn,.int .i64 st.st,.str st.txt,.nsl,.nsl,.int .i64 st.ev,.sl gt 0 1 1,.str rq,.str an,.int .i64 0,.int .i64 0])=[.str faa,.int .i64 ex,.sl Z 0 1 1,.str st.dfn,.str st.id,.str st.par,.str st.pn,.int .i64 st.st,.str st.txt,.nsl,.nsl,.int .i64 st.ev,.sl gt 0 1 1,.str rq,.str an,.int .i64 0,.int .i64 0]:=rfl
 unfold z2s at h2
 simp only [I,h1,h2,ni,Int.natCast_zero,go_sem]
 obtain ⟨u,hu⟩:∃u,L.length=u:=⟨_,rfl⟩
 have kA:Keep none' L (L++[Blk.cells 17 [[.str faa,.int .i64 ex,.sl Z 0 1 1,.str st.dfn,.str st.id,.str st.par,.str st.pn,.int .i64 st.st,.str st.txt,.nsl,.nsl,.int .i64 st.ev,.sl gt 0 1 1,.str rq,.str an,.int .i64 0,.int .i64 0]]]):=Keep.app Keep.refl
 have Q:(L++[Blk.cells 17 [[.str faa,.int .i64 ex,.sl Z 0 1 1,.str st.dfn,.str st.id,.str st.par,.str st.pn,.int .i64 st.st,.str st.txt,.nsl,.nsl,.int .i64 st.ev,.sl gt 0 1 1,.str rq,.str an,.int .i64 0,.int .i64 0]]])[u]?=some (.cells 17 [[.str faa,.int .i64 ex,.sl Z 0 1 1,.str st.dfn,.str st.id,.str st.par,.str st.pn,.int .i64 st.st,.str st.txt,.nsl,.nsl,.int .i64 st.ev,.sl gt 0 1 1,.str rq,.str an,.int .i64 0,.int .i64 0]]):=by rw [<-hu];simp
 rw [hu]
 generalize uo:L++[Blk.cells 17 [[.str faa,.int .i64 ex,.sl Z 0 1 1,.str st.dfn,.str st.id,.str st.par,.str st.pn,.int .i64 st.st,.str st.txt,.nsl,.nsl,.int .i64 st.ev,.sl gt 0 1 1,.str rq,.str an,.int .i64 0,.int .i64 0]]]=LA at *
 have B:=kA.get hx fun h=>h
 have J:=kA.get hc fun h=>h
 have eu:=kA.get qf fun h=>h
 have aj:=kA.get lm fun h=>h
 have au:zl LA s F N n d:=hS.keep kA fun _ _ h=>h
 have uf:=zg B
 have lA:=zg Q
 refine zh (z9e (E:=E.noPan) A B J) ?_
 rintro r L1 ⟨rfl,rfl⟩
 simp only [Q,go_sem]
 refine zY (args':=[.str faa]) rfl (jo (E:=E.noPan) A) (fun _=>rfl) ?_
 have S:=B
 unfold exB at S
 simp only [I,Q,S,go_sem]
 refine zY (args':=[.str faa,.int .i64 3]) rfl (vN (E:=E.noPan) A) (fun _=>rfl) ?_
 simp only [I,Q,S,go_sem]
 refine zh (YS (E:=E.noPan) A B au od hf) ?_
 rintro r L' ⟨rfl,rfl⟩
 simp only [I,Q,go_sem]
 refine zh (zaB (E:=E.noPan) (ne:=1) (seq:=0) (src:=0) A B au od hf rfl rfl rfl qc od od lu (.inl rfl)) ?_
 rintro r L2 ⟨rfl,rfl⟩
 simp only [I,go_sem]
 refine zh (z6B (E:=E.noPan) A) ?_
 rintro r LB ⟨b,rfl,hB⟩
 have gB:=hB.get Q
 have lB:=zg gB
 have mg:lenOf (.sl Z 0 1 1)=some 1:=rfl
 have kz:lenOf (.sl gt 0 1 1)=some 1:=rfl
 have bf:=he.plain
 have az:=dw.plain
 have ut:=di.plain
 simp only [gB,zt mg,go_sem]
 refine zC (fun q ρ M=>ρ 0=.ptr x 0 0/\ρ 1=.ptr c 0 0/\ρ 5=.ptr u 0 0/\ρ 9=.int .i64 0/\ρ 12=.ptr b 0 0/\ρ 67=.sl Z 0 1 1/\ρ 68=.int .i64 1/\((q=1/\M=LB/\ρ 69=.int .i64 0)\/(q=0/\ρ 69=.int .i64 1/\Yg L2 M b x [⟨evK ex,strOf e.bytes,false⟩] e.bytes.length)))
  ⟨by simp only [I,go_sem],by simp only [h1,go_sem],by simp only [go_sem],by simp only [go_sem],by simp only [go_sem],by simp only [go_sem],by simp only [go_sem]<;>rfl,.inl ⟨rfl,rfl,by simp only [go_sem]⟩⟩ ?_
 clear I h1 h2 ρ
 rintro q ρ M ⟨I,h1,T,h9,j,bn,ae,⟨rfl,rfl,U⟩ | ⟨rfl,U,gu⟩⟩
 ·have Y:=hB.get eu
  have qx:=zg Y
  unfold EvV.cells at Y
  simp only [bn,ae,U,Y,go_sem]
  show vJ E.noPan 39 [.agg e.cells] _ _
  have qg:Yg L2 (M++[Blk.cells 4 [[IV.int IntKind.i64 e.kind,IV.str e.node,IV.str e.txt,IV.int IntKind.i64 e.num]]]) b x [] 0:=hB.keep (Keep.app Keep.refl)
  generalize M++[Blk.cells 4 [[IV.int IntKind.i64 e.kind,IV.str e.node,IV.str e.txt,IV.int IntKind.i64 e.num]]]=Ma at *
  refine zh (zbA (E:=E.noPan) A he) ?_
  rintro r M1 ⟨rfl,rfl⟩
  simp only [j,go_sem]
  refine zh (z1I (E:=E.noPan) (w:=.isl e.bytes) (n:=e.bytes.length) A qg rfl od od) ?_
  rintro r M2 ⟨rfl,dn⟩
  have g2:=dn.get Q
  have l2:=zg g2
  have w0:IntKind.i64.wrap ((ex:Int)+0)=(ex:Int):=wR
  simp only [T,h9,j,g2,w0,go_sem]
  refine zi (args':=[.int .i64 0,.int .i64 ex]) rfl (z1v (E:=E.noPan) A ay od) rfl ?_
  simp only [go_sem]
  refine zh (VS (E:=E.noPan) (s:=strOf e.bytes) A dn (fun M _=>bf.str) (by simp)) ?_
  rintro r M3 ⟨rfl,O⟩
  have w1:IntKind.i64.wrap (0+1)=1:=by decide
  simp only [YF,I,h1,T,h9,j,bn,ae,U,go_sem]
  have ez:(0:Int)+(e.bytes.length:Int)=(e.bytes.length:Int):=by omega
  rw [ez] at O
  exact ⟨0,od,.inr ⟨rfl,O⟩⟩
 ·clear gB lB hB
  have gB:=gu.get Q
  have lB:=zg gB
  simp only [T,ae,U,gB,go_sem]
  refine zh (z6C (E:=E.noPan) (s:=st) (v:=.nsl) (w:=.nsl) A rfl rfl dw) ?_
  rintro r M2 ⟨rfl,rfl⟩
  simp only [j,go_sem]
  refine zh (z1I (E:=E.noPan) (w:=.isl st.bytes) (n:=st.bytes.length) A gu rfl od od) ?_
  rintro r M3 ⟨rfl,O⟩
  have g3:=O.get Q
  have l3:=zg g3
  simp only [h9,j,go_sem]
  refine zY (args':=[.int .i64 0]) rfl (VI (E:=E.noPan) A) (fun _=>rfl) ?_
  have mi:(faa.length<=9223372036854775807)=True:=eq_true (by decide)
  simp only [T,g3,mi,go_sem]
  refine zh (VS (E:=E.noPan) (s:=faa) A (O.keep (Keep.app Keep.refl)) (fun M hM=>z2x M _ (hM.get (by simp) fun h=>h)) (by simp)) ?_
  rintro r M4 ⟨rfl,df⟩
  clear O g3 l3
  simp only [h9,j,go_sem]
  refine zi (args':=[.int .i64 0]) rfl (Yc (E:=E.noPan) A) rfl ?_
  simp only [go_sem]
  refine zh (VS (E:=E.noPan) (s:=strOf st.bytes) A df (fun M _=>az.str) (by simp)) ?_
  rintro r M5 ⟨rfl,af⟩
  clear df
  have g5:=af.get Q
  have l5:=zg g5
  simp only [T,g5,zt kz,go_sem]
  refine zC (fun q ρ M=>ρ 0=.ptr x 0 0/\ρ 1=.ptr c 0 0/\ρ 5=.ptr u 0 0/\ρ 9=.int .i64 0/\ρ 12=.ptr b 0 0/\ρ 116=.sl gt 0 1 1/\ρ 117=.int .i64 1/\((q=1/\M=M5/\ρ 118=.int .i64 0)\/(q=0/\ρ 118=.int .i64 1/\Yg L2 M b x [⟨evK ex,strOf e.bytes,false⟩,⟨[110,47,48,48,48],faa,false⟩,⟨[115,47,48,48,48],strOf st.bytes,false⟩] ((e.bytes.length+st.bytes.length+tk.bytes.length:Nat):Int))))
   ⟨by simp only [I,go_sem],by simp only [h1,go_sem],by simp only [T,go_sem],by simp only [h9,go_sem],by simp only [j,go_sem],by simp only [go_sem],by simp only [go_sem]<;>rfl,.inl ⟨rfl,rfl,by simp only [go_sem]⟩⟩ ?_
  clear I h1 T h9 j bn ae U ρ
  rintro q ρ M ⟨I,h1,T,h9,j,ak,R,⟨rfl,rfl,G⟩ | ⟨rfl,G,V⟩⟩
  ·have D:=af.get aj
   have rf:=zg D
   unfold Zf.cells at D
   rw [ax] at D
   simp only [ak,R,G,D,go_sem]
   have qi:∀a b:Nat,zG (.raw (.complex .f64 a b))=true:=fun _ _=>rfl
   simp only [qi,go_sem]
   have eC:tk.cells=[.int .i64 1,.raw (.complex .f64 tk.rb tk.ib),.str tk.flow,.str tk.node,.int .i64 tk.try_,.int .i64 tk.at_,.int .i64 0,.str [],.str [],.str [],.str [],.str [],.int .i64 0]:=by unfold Zf.cells;rw [ax];rfl
   rw [<-eC]
   obtain ⟨tb,ai⟩:∃tb,M.length=tb:=⟨_,rfl⟩
   have pq:(M++[Blk.cells 13 [tk.cells]])[tb]?=some (.cells 13 [tk.cells]):=by rw [<-ai];simp
   obtain ⟨F5,f1,f2,f3⟩:=af
   have qp:¬F5 tb:=fun h=>by have:=f1.lt.2.2 _ h;omega
   have iy:Keep none' M (M++[Blk.cells 13 [tk.cells]]):=Keep.app Keep.refl
   have ny:=f1.keep iy fun _ _ h=>h
   have ql:=f3.trans iy fun _ _ h=>h
   rw [ai]
   generalize M++[Blk.cells 13 [tk.cells]]=Ma at *
   refine zh (z8Z (E:=E.noPan) A di) ?_
   rintro r M1 ⟨rfl,rfl⟩
   simp only [j,go_sem]
   refine zh (z5W (E:=E.noPan) (w:=.isl tk.bytes) (n:=tk.bytes.length) A ny rfl od od) ?_
   rintro r M2 ⟨rfl,j1,j2,j3⟩
   have bg:=j2.get pq qp
   have ug:=zg bg
   rw [eC] at bg
   have w1:IntKind.i64.wrap (0+1)=1:=by decide
   simp only [YF,I,h1,T,h9,j,ak,R,G,bg,go_sem]
   have ez:((0:Int)+(e.bytes.length:Int)+(st.bytes.length:Int)+(tk.bytes.length:Int))=((e.bytes.length+st.bytes.length+tk.bytes.length:Nat):Int):=by omega
   have lw:((e.bytes.length:Int)+(st.bytes.length:Int)+(tk.bytes.length:Int))=((e.bytes.length+st.bytes.length+tk.bytes.length:Nat):Int):=by omega
   refine ⟨0,od,.inr ⟨rfl,?_⟩⟩
   have ah:=Yg.step f2 ql j1 Grown.refl j2
   rw [lw] at ah
   exact ah
  ·clear af
   have ig:∃F v m,M[b]?=some (.cells 5 [[.ptr x 0 0,v,.mp m,.int .i64 ((e.bytes.length+st.bytes.length+tk.bytes.length:Nat):Int),.bool false]])/\ZF M b x [⟨evK ex,strOf e.bytes,false⟩,⟨[110,47,48,48,48],faa,false⟩,⟨[115,47,48,48,48],strOf st.bytes,false⟩] ((e.bytes.length+st.bytes.length+tk.bytes.length:Nat):Int) F:=by
    obtain ⟨F,⟨v,m,h1,h2⟩,_⟩:=id V
    exact ⟨F,v,m,h1,v,m,h1,h2⟩
   obtain ⟨F6,v6,m6,gm,_⟩:=ig
   have tq:=zg gm
   have dm:=V.get Q
   have uh:=zg dm
   have f1:((65000:Int)<((e.bytes.length+st.bytes.length+tk.bytes.length:Nat):Int))=False:=fO
   have f2:((4096:Int)<(an.length:Int))=False:=fO
   simp only [h1,T,j,R,G,dm,gm,f1,f2,go_sem]
   refine zh (z8M (E:=E.noPan) A ay V J (V.get J) (V.get aj) ag ax hn hm (by simp)) ?_
   rintro r M7 ⟨g7,rfl,nz,lq,F7,f71,f72,f73,f74,f75⟩
   have uk:=zf J
   have ku:¬u=c:=by have:=zf hc;omega
   have gp:=f73.get Q ku
   have um:=zg gp
   have qj:¬x=c:=fun h=>by subst h;rw [B] at J;simp [exB,Wu] at J
   have lh:=f73.get B qj
   have gy:=au.keep f73 fun u h1 h2=>bu (h2▸h1)
   have z1:(rq=[])=False:=eq_false l7
   simp only [T,h9,j,gp,z1,go_sem]
   refine zh (z1U (E:=E.noPan) A ay f71 lh gy od qo hd od od (by simp)) ?_
   rintro r M8 ⟨rfl,⟨F8,b8,l9⟩,k8⟩
   have mf:=k8.get nz f74
   have iq:¬F7 c:=fun h=>by have:=f72 c h;omega
   have gz:=k8.get lq iq
   obtain ⟨v8,m8,bz,tu,gq,mr⟩:=id b8
   have ui:=zg bz
   have eB:([⟨evK ex,strOf e.bytes,false⟩,⟨[110,47,48,48,48],faa,false⟩,⟨[115,47,48,48,48],strOf st.bytes,false⟩]++[⟨dpK n (m+1),strOf (tk.withId n (m+1)).bytes,false⟩]++[⟨rqK 0,strOf (yI [⟨rq,an,false⟩]),false⟩]:List OpV)=zbW ex e st (tk.withId n (m+1)) rq an:=rfl
   rw [eB] at gq
   rcases gq with ⟨_,dh⟩ | ⟨g,rfl,hg,qm⟩
   ·simp [zbW] at dh
   simp only [h1,j,bz,go_sem]
   have X:=hS.lt.2.2
   have uw:=kA.1
   have uy:L2.length<=g:=by
    have ng:F8 g:=by rw [mr];exact .inr (.inr ⟨_,rfl⟩)
    rcases l9 g ng with h | h
    ·exact f72 g h
    ·have:=f73.1;omega
   have qw:=gy.keep k8 fun u h1 h2=>by have:=f72 u h2;have:=X u h1;omega
   have ed:=ag.plain
   have uu:=ZK ex
   have qy:=ZK n
   have ry:=ZK (m+1)
   have su:=ZK 0
   have cu:=RqV.ok.plain (q:=⟨[],rq,an⟩) ⟨by show rq.length<=_;omega,by show an.length<=_;omega⟩
   have ik:=RqV.ok.len (q:=⟨[],rq,an⟩) ⟨by show rq.length<=_;omega,by show an.length<=_;omega⟩
   have hfit:∀q∈zbW ex e st (tk.withId n (m+1)) rq an,q.fit/\q.gone=false/\q.key.length+q.val.length<=70000:=by
    intro q hq
    simp only [zbW,List.mem_cons,List.not_mem_nil,or_false] at hq
    rcases hq with rfl | rfl | rfl | rfl | rfl
    ·refine ⟨⟨(show evK ex≠[] by unfold evK;simp),(show (evK ex).length<=200 by unfold evK;simp only [lla,llc,lln];omega),?_,fun h=>by cases h⟩,rfl,?_⟩
     ·show (strOf e.bytes).length<=_
      rw [bf.len];omega
     ·show (evK ex).length+(strOf e.bytes).length<=_
      rw [bf.len];unfold evK;simp only [lla,llc,lln];omega
    ·exact ⟨⟨by decide,by decide,by decide,fun h=>by cases h⟩,rfl,by decide⟩
    ·refine ⟨⟨List.cons_ne_nil _ _,(show ([115,47,48,48,48]:List UInt8).length<=200 by decide),?_,fun h=>by cases h⟩,rfl,?_⟩
     ·show (strOf st.bytes).length<=_
      rw [az.len];omega
     ·show 5+(strOf st.bytes).length<=_
      rw [az.len];omega
    ·refine ⟨⟨(show dpK n (m+1)≠[] by unfold dpK;simp),(show (dpK n (m+1)).length<=200 by unfold dpK;simp only [lla,llc,lln];omega),?_,fun h=>by cases h⟩,rfl,?_⟩
     ·show (strOf (tk.withId n (m+1)).bytes).length<=_
      rw [ed.len];omega
     ·show (dpK n (m+1)).length+(strOf (tk.withId n (m+1)).bytes).length<=_
      rw [ed.len];unfold dpK;simp only [lla,llc,lln];omega
    ·refine ⟨⟨(show rqK 0≠[] by unfold rqK;simp),(show (rqK 0).length<=200 by unfold rqK;simp only [lla,llc,lln];omega),?_,fun h=>by cases h⟩,rfl,?_⟩
     ·show (strOf (yI [⟨rq,an,false⟩])).length<=_
      rw [cu.len];exact Nat.le_trans ik (by decide)
     ·show (rqK 0).length+(strOf (yI [⟨rq,an,false⟩])).length<=_
      rw [cu.len];unfold rqK;simp only [lla,llc,lln]
      have:(yI [⟨rq,an,false⟩]).length<=11000:=ik
      omega
   have kw:(zbW ex e st (tk.withId n (m+1)) rq an).length=5:=rfl
   have pz:=z4p (l:=zbW ex e st (tk.withId n (m+1)) rq an) (m:=70000) od fun q hq=>⟨(hfit q hq).1.ok,(hfit q hq).2.2⟩
   rw [kw] at pz
   refine zh (z0w (E:=E.noPan) (l:=zbW ex e st (tk.withId n (m+1)) rq an) A gz qw bu hg (fun h=>by have:=X _ h;omega) qm od (fun q hq=>(hfit q hq).1) (z2Q fun q hq=>(hfit q hq).2.1) od od od) ?_
   rintro r M9 ⟨rfl,⟨F9,pg,qh⟩,bi⟩
   simp only [go_sem]
   have iw:Keep (fun u=>u=c\/F u) L M8:=((kA.mono (F':=fun u=>u=c\/F u) fun _ _ h=>h.elim).trans (f73.mono (F':=fun u=>u=c\/F u) fun _ _ h=>.inl h) fun _ _ h=>h).trans k8 fun u hu h=>by have:=f72 u h;omega
   refine ⟨g7,rfl,bi.get mf fun h=>by have:=X _ h;omega,bi.get gz bu,⟨F9,pg.mono od,fun w hw=>?_⟩,iw.trans bi fun u _ h=>.inr h⟩
   rcases qh w hw with h | h
   ·exact .inl h
   ·right;have:=iw.1;omega
def q23 : XC :=(sO [oV 2 (.bool false)] (.seq (.drawE [oM 6 0,oN 7 6,oF 8 0 7,oL 9 8,oM 10 0,oN 11 10,oF 12 1 11,oL 13 12,oC 14 80 [.t 9,.t 13,(oi 1),(oi 4)],oM 5 14,oX 15 0 5,oX 16 1 5,oM 3 15,oM 4 16]) (.seq (sO [oM 17 4,oK 18 .neq 17 0,oM 19 18,oG 20 19 false (.mov (.t 3)),oG 21 19 false (.ex (.eqP false) [.t 20,oz]),oO 22 (.pick (.t 19) (.c (.bool true)) (.t 21))] (cT 22 (sO [oV 2 (.bool false)] .ret) .skip)) (sO [oM 23 0,oM 24 3,oN 25 23,oF 26 3 25,oS 26 24] (sO [oM 27 0,oN 28 27,oF 29 6 28,oL 30 29,oK 31 .add 30 1,oN 32 27,oF 33 6 32,oS 33 31] (sO [oM 34 0,oN 35 34,oF 36 7 35,oU (.store 1 (.t 36) (oi 0))] (.seq (.drawE [oM 37 3,oQ 38 81 [.t 37],oM 39 0,oN 40 39,oF 41 6 40,oL 42 41,oB 43 .eql 38 42,oM 2 43]) .ret)))))))
def q5 : XC :=(sO [oO 0 (.mov oz)] (sO [oC 9 18 [],oM 1 9] (sO [oC 11 18 [],oC 12 19 [.t 11],oM 10 12,oX 13 0 10,oX 14 1 10,oM 2 13,oM 3 14] (sO [oM 16 1,oC 17 20 [.t 16,(oi 0)],oM 15 17,oX 18 0 15,oX 19 1 15,oM 4 18,oM 5 19] (.seq (sO [oM 20 3,oK 21 .neq 20 0,oM 22 21,oG 23 22 false (.mov (.t 5)),oG 24 22 false (.bin .neq (.t 23) (oi 0)),oO 25 (.pick (.t 22) (.c (.bool true)) (.t 24)),oM 26 25,oG 27 26 false (.mov (.t 2)),oG 28 26 false (.ex (.eqP false) [.t 27,oz]),oO 29 (.pick (.t 26) (.c (.bool true)) (.t 28)),oM 30 29,oG 31 30 false (.mov (.t 4)),oG 32 30 false (.ex (.eqP false) [.t 31,oz]),oO 33 (.pick (.t 30) (.c (.bool true)) (.t 32))] (cT 33 (sO [oO 0 (.mov oz)] .ret) .skip)) (sO [oM 34 2,oM 35 4,oM 36 1,oC 37 21 [(oi 3),(oi 1)],oO 38 (.build [(.raw (.pointer none)),(.raw (.pointer none)),(.raw (.pointer none)),(.raw (.pointer none)),(.raw (.pointer none)),(.raw (.pointer none)),(.int .i64 0),(.int .i64 0)] [(0,(1,(.t 34))),(1,(1,(.t 35))),(2,(1,(.t 36))),(5,(1,(.t 37)))]),oO 39 (.box (.t 38)),oM 6 39] (sO [oM 41 4,oC 42 22 [.t 41,(oi 3),(oi 1)],oM 40 42,oX 43 0 40,oX 44 1 40,oM 7 43,oM 8 44] (.seq (sO [oM 45 8,oK 46 .neq 45 0,oM 47 46,oG 48 47 false (.mov (.t 7)),oG 49 47 false (.ex (.eqP false) [.t 48,oz]),oO 50 (.pick (.t 47) (.c (.bool true)) (.t 49)),oM 51 50,oG 52 51 false (.mov (.t 6)),oG 53 51 false (.call (.f 23) [.t 52]),oG 54 51 false (.un .not (.t 53)),oO 55 (.pick (.t 51) (.c (.bool true)) (.t 54))] (cT 55 (sO [oO 0 (.mov oz)] .ret) .skip)) (sO [oM 56 6,oM 57 7,oN 58 56,oF 59 4 58,oS 59 57] (sO [oM 60 6,oM 0 60] .ret))))))))))
def q21 : XC :=(sO [oO 4 (.mov oz)] (sO [oM 5 0,oM 6 1,oO 7 (.build [(.int .i64 0),(.int .i64 0),(.int .i64 0),.nsl,.nsl,.nsl,.nsl,.nsl,.nsl,.nsl,.nsl,.nsl,.nsl,.nsl,.nsl,.nsl,.nsl,.nsl,.nsl,.nsl,.nsl,.nsl,(.int .i64 0),(.int .i64 0),(.int .i64 0),(.int .i64 0),(.int .i64 0),(.int .i64 0),(.int .i64 0),(.int .i64 0),(.int .i64 0),(.int .i64 0),(.int .i64 0),(.int .i64 0),(.int .i64 0),(.int .i64 0),(.int .i64 0),(.int .i64 0),(.int .i64 0),(.int .i64 0),(.int .i64 0),(.int .i64 0),(.int .i64 0),(.int .i64 0),(.int .i64 0),(.int .i64 0),(.int .i64 0),(.int .i64 0),(.int .i64 0),(.int .i64 0),(.int .i64 0),(.int .i64 0),(.int .i64 0),(.int .i64 0),(.raw (.complex .f64 0 0))] [(0,(1,(.t 5))),(1,(1,(.t 6)))]),oO 8 (.box (.t 7)),oM 4 8] .ret))
def q6 : XC :=(sO [oI 4 0] (sO [oM 5 0,oM 6 1,oB 7 .rem 5 6,oM 0 7] (.seq (sO [oM 8 0,oK 9 .lss 8 0] (cT 9 (.ops [oM 10 0,oM 11 1,oB 12 .add 10 11,oM 0 12]) .skip)) (sO [oM 13 0,oM 4 13] .ret))))
def plB (t s dk:Nat) (c x r:IV) (n made:Nat):Blk:=.cells 8 [[.ptr t 0 0,.ptr s 0 0,.ptr dk 0 0,c,x,r,.int .i64 n,.int .i64 made]]
theorem ze6 (S:E.P=Tryz.prog) {p t s I NT NS n w:Nat} {c0 Q r0:IV} {FT FS:Nat->Prop} {J d:KV} {o:Int} (j:L[p]?=some (plB t s I c0 Q r0 n w)) (hT:ZL L t FT NT J) (hl:vX J o n) (hS:zl L s FS NS n d) (l:∀u,FT u->¬FS u) (q:¬FT p) (B:¬FS p)
  (hn:n<4503599627370496) (hN:J.length<=800000) (T:NT+1000<=1099511627776) (U:NS+300<=1099511627776) :
  XT E 23 [.ptr p 0 0] L fun r L'=>r=.bool true/\∃c,L.length<=c/\L'[p]?=some (plB t s I (.ptr c 0 0) Q r0 (n+1) 0)/\L'[c]?=some (Wu t s (n+1) (floatOfInt .f64 ((n+1:Nat):Int)) 0 true)/\
   (∃FT' FS' NT',NT'<=NT+1000/\ZL L' t FT' NT' (J.put [108,101,97,115,101,47,49] (strOf (Zt 4 (n+1))))/\zl L' s FS' (NS+300) ((n+1:Nat):Int) d/\(∀u,FT' u->¬FS' u)/\¬FT' c/\¬FS' c/\¬FT' p/\¬FS' p/\Grown FT FT' L L'/\Grown FS FS' L L')/\Keep (fun u=>u=p\/FT u\/FS u) L L':=by
 have lp:=zg j
 have ah:=zf j
 have ag:=j
 unfold plB at j
 refine xt1 (fn:=Tryz.f23) (rs:=[.tmp 2]) (c:=q23) S fun ρ V=>?_
 unfold q23
 have ep:∀u:Nat,vI (.ptr u 0 0) (.raw (.pointer none))=some false:=fun _=>rfl
 simp only [V,j,go_sem]
 refine zh (z7q (E:=E.noPan) S hT hl hS l hn hN T U) ?_
 rintro r L1 ⟨c,rfl,X,hc,⟨FT',FS',NT',q1,q2,q3,q4,q5,q6,q7,q8⟩,hk⟩
 have Z:¬(FT p\/FS p):=fun h=>h.elim q B
 have b:=hk.get j Z
 have R:=zg b
 have ae:=zf hc
 have ai:=zg hc
 have pc:(p=c)=False:=fO
 have cp:(c=p)=False:=fO
 have w1:IntKind.i64.wrap ((n:Int)+1)=((n+1:Nat):Int):=wR
 simp only [V,ep,b,R,w1,go_sem]
 rw [List.set_set,List.set_set]
 obtain ⟨M,O⟩:∃M,L1.set p (Blk.cells 8 [[IV.ptr t 0 0,IV.ptr s 0 0,IV.ptr I 0 0,IV.ptr c 0 0,Q,r0,IV.int .i64 ((n+1:Nat):Int),IV.int .i64 0]])=M:=⟨_,rfl⟩
 rw [O]
 have G:Keep (fun u=>u=p) L1 M:=by rw [<-O];exact Keep.set Keep.refl fun _=>rfl
 have v:M[p]?=some (Blk.cells 8 [[IV.ptr t 0 0,IV.ptr s 0 0,IV.ptr I 0 0,IV.ptr c 0 0,Q,r0,IV.int .i64 ((n+1:Nat):Int),IV.int .i64 0]]):=by rw [<-O,List.getElem?_set_self (zf b)]
 have A:=G.get hc od
 have lM:M.length=L1.length:=by rw [<-O,lls]
 refine Zp (E:=E.noPan) (.int .i64 ((n+1:Nat):Int)) rfl (fun L2 ha=>zcv (by exact S) ((zS ha).get A fun h=>h)) ?_
 have af:=zg v
 simp only [V,v,go_sem]
 have D:¬FT' p:=fun h=>by
  rcases q7 _ h with h | h
  ·exact q h
  ·omega
 have m:¬FS' p:=fun h=>by
  rcases q8 _ h with h | h
  ·exact B h
  ·omega
 refine ⟨c,X,rfl,A,⟨FT',FS',NT',q1,q2.keep G fun u h1 h2=>D (h2▸h1),q3.keep G fun u h1 h2=>m (h2▸h1),q4,q5,q6,D,m,fun u Y=>?_,fun u Y=>?_⟩,(hk.mono (F':=fun u=>u=p\/FT u\/FS u) fun u _ h=>.inr h).trans G fun u _ h=>.inl h⟩
 ·rw [lM];exact q7 u Y
 ·rw [lM];exact q8 u Y
theorem zeC (b:E.P=Tryz.prog):XT E 21 [.int .i64 3,.int .i64 1] L fun r L'=>r=z3K (.isl [])/\L'=L:=by
 refine zU (R:=fun r L'=>r=.ptr L.length 0 0/\L'=L++[.cells 55 [zN .nsl .nsl]]) ?_ ?_
 ·skip
  refine xt2 (fn:=Tryz.f21) (rs:=[.tmp 4]) (c:=q21) b fun ρ d h1=>?_
  unfold q21
  simp only [d,h1,go_sem]
  rfl
 ·rintro r L' ⟨rfl,rfl⟩
  have h1:Zv L.length L.length=some none:=by simp [Zv]
  refine ⟨Keep.app Keep.refl,_,?_,rfl⟩
  simp [fuel,conv,h1,zJ,zN,z3K]
theorem z4y (p:E.P=Tryz.prog) (n m:Int) (d:0<m) (s:m<=1000000000):zD E 6 [.int .i64 n,.int .i64 m] (.int .i64 (n%m)):=by
 refine xu2 (fn:=Tryz.f6) (c:=q6) (t:=4) p fun ρ l h1=>?_
 unfold q6
 simp only [l,h1,go_sem]
 refine ⟨od,?_⟩
 have j:n%m=(n.tmod m)%m:=by
  conv=>lhs;rw [<-Int.tmod_add_mul_tdiv n m]
  rw [Int.add_mul_emod_self_left]
 have r:=Int.tmod_lt_of_pos n d
 have q:=Int.lt_tmod_of_pos n d
 refine s_cond (b:=decide (n.tmod m<0)) (by simp only [go_sem]) ?_ ?_<;>intro h<;>simp only [l,h1,h,go_sem]
 ·rw [decide_eq_true_eq] at h
  have e:n.tmod m+m=n%m:=by
   rw [j,<-Int.add_emod_right,Int.emod_eq_of_lt od od]
  rw [e,wrap64 od od]
  rfl
 ·rw [decide_eq_false_iff_not] at h
  have e:n.tmod m=n%m:=by rw [j,Int.emod_eq_of_lt od od]
  rw [e]
  rfl
def Va (L:List Blk) (p t s dk c x:Nat) (r0:IV) (n made:Nat) (FT FS:Nat->Prop) (NT NS:Nat) (dT d:KV):Prop:=
 L[p]?=some (plB t s dk (.ptr c 0 0) (.ptr x 0 0) r0 n made)/\L[x]?=some (exB s)/\L[c]?=some (Wu t s n (floatOfInt .f64 ((n:Nat):Int)) 0 true)/\ZL L t FT NT dT/\vX dT 4 n/\zl L s FS NS n d/\(∀u,FT u->¬FS u)/\
  (¬FT p/\¬FT x/\¬FT c)/\(¬FS p/\¬FS x/\¬FS c)
theorem z2V (d:E.P=Tryz.prog):XT E 5 [] L fun r L'=>∃p t s dk c x FT FS NT NS dT,r=.ptr p 0 0/\Va L' p t s dk c x (z3K (.isl [])) 1 0 FT FS NT NS dT []/\NT<=1000/\NS<=1000/\dT.length<=1/\(∀u,FT u->L.length<=u)/\(∀u,FS u->L.length<=u)/\L.length<=p/\L.length<=c/\Keep none' L L':=by
 refine xtA (fn:=Tryz.f5) (rs:=[.tmp 0]) (c:=q5) d rfl (by kernel_rfl) (by decide) (Nat.le_of_ble_eq_true rfl) fun ρ e=>?_
 clear e
 unfold q5
 have ep:∀u:Nat,vI (.ptr u 0 0) (.raw (.pointer none))=some false:=fun _=>rfl
 simp only [go_sem]
 refine zh (z0Y (E:=E.noPan) d) ?_
 rintro r L1 ⟨d1,m1,rfl,e1,rfl,rfl⟩
 have k1:Keep none' L L1:=by rw [e1,show L++[Blk.map [] 0,vK L.length 0 0]=L++[Blk.map [] 0]++[vK L.length 0 0] by simp];exact Keep.app (Keep.app Keep.refl)
 have l1:L1.length=L.length+2:=by rw [e1];simp
 have az:L1[L.length+1]?=some (vK L.length 0 0):=by rw [e1];simp []
 have V:L1[L.length]?=some (.map [] 0):=by rw [e1];simp []
 clear e1
 simp only [go_sem]
 refine zh (z0Y (E:=E.noPan) d) ?_
 rintro r L2 ⟨d2,m2,rfl,Q,rfl,rfl⟩
 have U:Keep none' L1 L2:=by rw [Q,show L1++[Blk.map [] 0,vK L1.length 0 0]=L1++[Blk.map [] 0]++[vK L1.length 0 0] by simp];exact Keep.app (Keep.app Keep.refl)
 have l2:L2.length=L1.length+2:=by rw [Q];simp
 have X:L2[L1.length+1]?=some (vK L1.length 0 0):=by rw [Q];simp []
 have Z:L2[L1.length]?=some (.map [] 0):=by rw [Q];simp []
 clear Q
 simp only [go_sem]
 refine zh (zc5 (E:=E.noPan) d X Z) ?_
 rintro r L3 ⟨t,rfl,⟨FT,hT,au⟩,S⟩
 simp only [go_sem]
 refine zh (z9W (E:=E.noPan) d (S.get (U.get az fun h=>h) fun h=>h) (S.get (U.get V fun h=>h) fun h=>h)) ?_
 rintro r L4 ⟨s,rfl,⟨FS,hS,af⟩,df,k4⟩
 simp only [ep,go_sem]
 refine zh (zeC (E:=E.noPan) d) ?_
 rintro r L5 ⟨er,e5⟩
 have k5:Keep none' L4 L5:=by rw [e5];exact Keep.refl
 have l5:L5.length=L4.length:=by rw [e5]
 clear e5
 obtain ⟨rv,j⟩:∃rv,z3K (.isl [])=rv:=⟨_,rfl⟩
 rw [j] at er ⊢
 subst er
 have ai:cellsOf r=[r]:=by rw [<-j];rfl
 have dh:zG r=true:=by rw [<-j];rfl
 simp only [ai,go_sem]
 obtain ⟨p,hp⟩:∃p,L5.length=p:=⟨_,rfl⟩
 rw [hp]
 obtain ⟨L6,A⟩:∃L6,L5++[Blk.cells 8 [[IV.ptr t 0 0,IV.ptr s 0 0,IV.ptr (L.length+1) 0 0,IV.raw (Value.pointer none),IV.raw (Value.pointer none),r,IV.int .i64 0,IV.int .i64 0]]]=L6:=⟨_,rfl⟩
 rw [A]
 have k6:Keep none' L5 L6:=by rw [<-A];exact Keep.app Keep.refl
 have l6:L6.length=p+1:=by rw [<-A,<-hp];simp
 have bi:L6[p]?=some (plB t s (L.length+1) (.raw (Value.pointer none)) (.raw (Value.pointer none)) r 0 0):=by rw [<-A,<-hp];simp [plB]
 clear A
 refine zh (zfo (E:=E.noPan) d) ?_
 rintro r L7 ⟨rfl,R⟩
 have k7:Keep none' L6 L7:=by rw [R];exact Keep.app Keep.refl
 have l7:L7.length=L6.length+1:=by rw [R];simp
 have bf:L7[L6.length]?=some (exB s):=by rw [R];simp
 clear R
 have ak:=k7.get bi fun h=>h
 have ax:=k5.trans k6 fun _ _ h=>h
 have I:Keep none' L4 L7:=ax.trans k7 fun _ _ h=>h
 have O:Keep none' L3 L7:=k4.trans I fun _ _ h=>h
 have ae:=hT.keep O fun _ _ h=>h
 have ay:=hS.keep I fun _ _ h=>h
 have b:=hT.lt.2.2
 have m:=hS.lt.2.2
 have a1:=k1.1
 have a2:=U.1
 have a3:=S.1
 have a4:=k4.1
 have a5:=k5.1
 have l:∀u,FT u->L1.length<=u:=fun u w=>by
  rcases au u w with (h | h) | h
  ·omega
  ·omega
  ·omega
 have v:∀u,FS u->L.length<=u/\(u<L1.length\/L3.length<=u):=fun u w=>by
  rcases af u w with (h | h) | h
  ·omega
  ·omega
  ·omega
 have B:∀u,FT u->¬FS u:=fun u h1 h2=>by
  have:=b u h1
  have:=l u h1
  have:=v u h2
  omega
 simp only [ep,go_sem]
 refine zh (ze6 (E:=E.noPan) (n:=0) d ak ae (.inl ⟨rfl,rfl,rfl⟩) ay B (fun h=>by have:=b _ h;omega) (fun h=>by have:=m _ h;omega) od (Nat.zero_le _) od od) ?_
 rintro r L8 ⟨rfl,c,bz,q,ah,⟨FT',FS',NT',q1,q2,q3,q4,q5,q6,q7,q8,q9,q10⟩,k8⟩
 have cu:=zg q
 have bn:=k8.get bf fun h=>by
  rcases h with h | h | h
  ·omega
  ·have:=b _ h;omega
  ·have:=m _ h;omega
 have D:=q
 unfold plB at D
 simp only [D,go_sem]
 obtain ⟨M,T⟩:∃M,L8.set p (plB t s (L.length+1) (.ptr c 0 0) (.ptr L6.length 0 0) r 1 0)=M:=⟨_,rfl⟩
 have J:Keep (fun u=>u=p) L8 M:=by rw [<-T];exact Keep.set Keep.refl fun _=>rfl
 have aj:M[p]?=some (plB t s (L.length+1) (.ptr c 0 0) (.ptr L6.length 0 0) r 1 0):=by rw [<-T,List.getElem?_set_self (zf q)]
 have bu:¬L6.length=p:=by omega
 have ag:¬c=p:=by omega
 have Y:¬FT' L6.length:=fun h=>by
  rcases q9 _ h with h | h
  ·have:=b _ h;omega
  ·omega
 have bg:¬FS' L6.length:=fun h=>by
  rcases q10 _ h with h | h
  ·have:=m _ h;omega
  ·omega
 have G:Keep none' L M:=by
  have b1:Keep none' L L7:=k1.trans (U.trans (S.trans O fun _ _ h=>h) fun _ _ h=>h) fun _ _ h=>h
  have b2:Keep none' L L8:=b1.trans k8 fun t ht h=>by
   rcases h with h | h | h
   ·omega
   ·have:=l _ h;omega
   ·have:=v _ h;omega
  exact b2.trans J fun t ht h=>by omega
 refine ⟨p,t,s,L.length+1,c,L6.length,FT',FS',NT',300,KV.put [] [108,101,97,115,101,47,49] (strOf (Zt 4 (0+1))),rfl,?_⟩
 show Va (L8.set p (plB t s (L.length+1) (.ptr c 0 0) (.ptr L6.length 0 0) r 1 0)) p t s (L.length+1) c L6.length r 1 0 FT' FS' NT' 300 _ _/\_
 refine ⟨?_,od,od,?_,fun u w=>?_,fun u w=>?_,od,od,?_⟩
 ·rw [T]
  exact ⟨aj,J.get bn bu,J.get ah ag,q2.keep J fun u h1 h2=>q7 (h2▸h1),.inr ⟨by rw [KV.get_put,if_pos rfl],by decide,by decide,by decide⟩,q3.keep J fun u h1 h2=>q8 (h2▸h1),q4,⟨q7,Y,q5⟩,⟨q8,bg,q6⟩⟩
 ·exact KV.put_len _ _ _
 ·rcases q9 u w with h | h
  ·have:=l u h;omega
  ·omega
 ·rcases q10 u w with h | h
  ·have:=v u h;omega
  ·omega
 ·show Keep none' L (L8.set p (plB t s (L.length+1) (.ptr c 0 0) (.ptr L6.length 0 0) r 1 0))
  rw [T];exact G
theorem zl.sorted {s N:Nat} {F:Nat->Prop} {b:Int} {d:KV} (h:zl L s F N b d):d.sorted:=by
 obtain ⟨lg,m,FL,FK,keys,sz,j,_,_,_,_,_,_,_,h,_⟩:=h
 exact h
def st0:StV:=⟨[],faa,[],[],0,[],0⟩
theorem jv:st0.ok:=⟨by decide,by decide,by decide,by decide,by decide,by decide,by decide⟩
def z0o (l:List Int):List (List IV):=l.map fun n=>[.int .i64 n]
theorem Vw (l:List Int):(z0o l).length=l.length:=List.length_map ..
theorem zgd (l:List Int):Rows 1 (z0o l):=by
 intro r b
 obtain ⟨n,_,rfl⟩:=List.mem_map.1 b
 rfl
theorem za3 {l:List Int} {i:Nat} (h:i<l.length):(z0o l).getD i []=[.int .i64 (l.getD i 0)]:=by
 simp [z0o,List.getD,h]
def q12 : XC :=(sO [oV 0 (.bool false)] (sO [oC 7 5 [],oM 1 7] (.seq (sO [oM 8 1,oO 9 (.ex (.eqP false) [.t 8,oz])] (cT 9 (sO [oV 0 (.bool false)] .ret) .skip)) (sO [oC 10 8 [(oi 0)],oO 11 (.build [(.int .i64 0),(.str []),(.str []),(.int .i64 0)] [(0,(1,(oi 1)))]),oO 12 (.bslice 4 [(.int .i64 0),(.str []),(.str []),(.int .i64 0)] 1 [(0,(.t 11))]),oC 13 8 [(oi 0)],oO 14 (.build [(.str []),(.str []),(.str []),(.str []),(.int .i64 0),(.str []),.nsl,.nsl,(.int .i64 0)] [(1,(1,(.t 13))),(8,(1,(oi 1)))]),oC 15 8 [(oi 0)],oO 16 (.build [(.int .i64 0),(.raw (.complex .f64 0 0)),(.str []),(.str []),(.int .i64 0),(.int .i64 0),(.int .i64 0),(.str []),(.str []),(.str []),(.str []),(.str []),(.int .i64 0)] [(0,(1,(oi 1))),(2,(1,(.t 15))),(3,(1,(.c (.str [97])))),(4,(1,(oi 1)))]),oO 17 (.bslice 13 [(.int .i64 0),(.raw (.complex .f64 0 0)),(.str []),(.str []),(.int .i64 0),(.int .i64 0),(.int .i64 0),(.str []),(.str []),(.str []),(.str []),(.str []),(.int .i64 0)] 1 [(0,(.t 16))]),oO 18 (.build [(.str []),(.int .i64 0),.nsl,(.str []),(.str []),(.str []),(.str []),(.int .i64 0),(.str []),.nsl,.nsl,(.int .i64 0),.nsl,(.str []),(.str []),(.int .i64 0),(.int .i64 0)] [(0,(1,(.t 10))),(2,(1,(.t 12))),(3,(9,(.t 14))),(12,(1,(.t 17))),(13,(1,(.c (.str [114])))),(14,(1,(.c (.str [121,101,115]))))]),oO 2 (.alloc [(.str []),(.int .i64 0),.nsl,(.str []),(.str []),(.str []),(.str []),(.int .i64 0),(.str []),.nsl,.nsl,(.int .i64 0),.nsl,(.str []),(.str []),(.int .i64 0),(.int .i64 0)]),oU (.store 17 (.t 2) (.t 18))] (.seq (.drawE [oM 20 1,oN 21 20,oF 22 4 21,oL 23 22,oM 24 1,oN 25 24,oF 26 3 25,oL 27 26,oO 28 (.loadN 17 (.t 2)),oC 29 10 [.t 23,.t 27,.t 28],oM 19 29,oX 30 0 19,oX 31 1 19,oM 3 30,oM 4 31]) (.seq (.drawE [oM 33 1,oN 34 33,oF 35 4 34,oL 36 35,oQ 37 8 [(oi 0)],oO 38 (.call (.f 15) [.t 36,.t 37,(.c (.str [114]))]),oM 32 38,oX 39 0 32,oX 40 1 32,oM 5 39,oM 6 40]) (sO [oM 41 4,oK 42 .eql 41 0,oM 43 42,oG 44 43 true (.mov (.t 3)),oG 45 43 true (.len (.t 44)),oG 46 43 true (.bin .eql (.t 45) (oi 1)),oO 47 (.pick (.t 43) (.t 46) (.c (.bool false))),oM 48 47,oG 49 48 true (.mov (.t 3)),oG 50 48 true (.idxS 13 (.t 49) (oi 0)),oG 51 48 true (.fldA 1 (.t 50)),oG 52 48 true (.load1 (.t 51)),oG 53 48 true (.bin .eql (.t 52) (.c (.raw (.complex .f64 4607182418800017408 4607182418800017408)))),oO 54 (.pick (.t 48) (.t 53) (.c (.bool false))),oM 55 54,oG 56 55 true (.mov (.t 6)),oO 57 (.pick (.t 55) (.t 56) (.c (.bool false))),oM 58 57,oG 59 58 true (.mov (.t 5)),oG 60 58 true (.bin .eql (.t 59) (.c (.str [121,101,115]))),oO 61 (.pick (.t 58) (.t 60) (.c (.bool false))),oM 62 61,oG 63 62 true (.mov (.t 1)),oG 64 62 true (.nilck (.t 63)),oG 65 62 true (.fldA 4 (.t 64)),oG 66 62 true (.load1 (.t 65)),oG 67 62 true (.call (.f 50) [.t 66]),oG 68 62 true (.len (.t 67)),oG 69 62 true (.bin .eql (.t 68) (oi 1)),oO 70 (.pick (.t 62) (.t 69) (.c (.bool false))),oM 0 70] .ret)))))))
def st1:StV:=⟨[],faa,[],[],0,[],1⟩
def e1:EvV:=⟨1,[],[],0⟩
def tk0:Zf:=⟨1,0,0,0,0,faa,[97],1,0⟩
theorem zdn:st1.ok:=⟨by decide,by decide,by decide,by decide,by decide,by decide,by decide⟩
theorem zij:e1.ok:=⟨by decide,by decide,by decide,by decide,by decide,by decide⟩
theorem znD:zhh 0 0 0 0:=⟨by decide,by decide,fun E b=>z3I b⟩
theorem znk:zhh 1 1 (fl 1) (fl 1):=⟨by decide,by decide,fun E b=>by rw [z8P];exact z2K b⟩
theorem zdo:tk0.ok:=⟨⟨by decide,by decide⟩,znD,by decide,by decide,by decide,by decide⟩
theorem zaf:(tk0.withId 1 1).ok:=⟨⟨by decide,by decide⟩,znk,by decide,by decide,by decide,by decide⟩
theorem z6r:e1.bytes.length+st1.bytes.length+tk0.bytes.length<=65000/\(tk0.withId 1 1).bytes.length<=65000:=by
 have q:=zdo.len
 have d:=zaf.len
 have h1:tk0.flow.length=3:=rfl
 have h2:tk0.node.length=1:=rfl
 have p:(tk0.withId 1 1).flow.length=3:=rfl
 have b:(tk0.withId 1 1).node.length=1:=rfl
 have t1:=zZ [] (by decide)
 have t2:=zZ faa (by decide)
 have j:faa.length=3:=rfl
 have n0:=Z5 (n:=0) od
 have m:=Z5 (n:=1) od
 have hs:wO 0=0:=rfl
 have h:e1.bytes.length<=100:=by simp only [EvV.bytes,e1,hs,lla,List.flatMap_cons,List.flatMap_nil,lln] at *;omega
 have l:st1.bytes.length<=1000:=by simp only [StV.bytes,st1,lla,List.flatMap_cons,List.flatMap_nil,lln] at *;omega
 omega
def zn4:List OpV:=zbW 0 e1 st1 (tk0.withId 1 1) [114] [121,101,115]
def dW:KV:=KV.puts [] zn4
theorem z8Q:dW=[(dpK 1 1,strOf (tk0.withId 1 1).bytes),(evK 0,strOf e1.bytes),([110,47,48,48,48],faa),(rqK 0,strOf (yI [⟨[114],[121,101,115],false⟩])),([115,47,48,48,48],strOf st1.bytes)]:=by
 rfl
theorem zew:YH dW (some st1):=by
 rw [z8Q]
 exact ⟨rfl,rfl,zdn⟩
theorem zfI:dW.list [114,47,48,48,48,47]=jC [⟨rqK 0,[114],[121,101,115]⟩]:=by rw [z8Q];rfl
theorem zek:dW.list [100,47]=z8i [(dpK 1 1,tk0.withId 1 1)]:=by rw [z8Q];rfl
theorem zaN:∀p∈dW,p.1.length<=1000:=by
 rw [z8Q]
 intro p b
 simp only [List.mem_cons,List.not_mem_nil,or_false] at b
 rcases b with rfl | rfl | rfl | rfl | rfl
 ·show (dpK 1 1).length<=1000;decide
 ·show (evK 0).length<=1000;decide
 ·decide
 ·show (rqK 0).length<=1000;decide
 ·show ([115,47,48,48,48]:List UInt8).length<=1000;decide
theorem zd4:dW.length=5:=by rw [z8Q];rfl
theorem zdr {u v:Value} {r:IV} {KV:IV->List Blk->Prop} (h:wE .eql u v=some r):xop E (.bin .eql (.c (.raw u)) (.c (.raw v))) cev L KV=KV r L:=by
 simp only [xop,VM,Z9,h,sij,exists_eq_left']
theorem zcM (v:E.P=Tryz.prog) (ag:E.gl 6=some dbT):XT E 12 [] L fun r L'=>r=.bool true/\Keep none' L L':=by
 refine xtA (fn:=Tryz.f12) (rs:=[.tmp 0]) (c:=q12) v rfl (by kernel_rfl) (by decide) (Nat.le_of_ble_eq_true rfl) fun ρ e=>?_
 clear e
 unfold q12
 have ep:∀u:Nat,vI (.ptr u 0 0) (.raw (.pointer none))=some false:=fun _=>rfl
 simp only [go_sem]
 refine zh (z2V (E:=E.noPan) v) ?_
 rintro r L1 ⟨p,t,s,dk,c,x,FT,FS,NT,NS,dT,rfl,w,ay,bg,bu,az,af,bf,bi,k1⟩
 obtain ⟨gp,gx,O,hT,hl,hS,ax,⟨t1,t2,t3⟩,⟨s1,s2,s3⟩⟩:=w
 simp only [ep,go_sem]
 refine zi (args':=[.int .i64 0]) rfl (Yy (E:=E.noPan) v) rfl ?_
 simp only [go_sem]
 refine zi (args':=[.int .i64 0]) rfl (Yy (E:=E.noPan) v) rfl ?_
 simp only [go_sem]
 refine zi (args':=[.int .i64 0]) rfl (Yy (E:=E.noPan) v) rfl ?_
 simp only [go_sem]
 obtain ⟨d,b⟩:∃d,L1.length=d:=⟨_,rfl⟩
 obtain ⟨gt,J⟩:∃gt,(L1++[Blk.cells 4 [[IV.int .i64 1,IV.str [],IV.str [],IV.int .i64 0]]]).length=gt:=⟨_,rfl⟩
 obtain ⟨T,I⟩:∃T,(L1++[Blk.cells 4 [[IV.int .i64 1,IV.str [],IV.str [],IV.int .i64 0]]]++[Blk.cells 13 [[IV.int .i64 1,IV.raw (Value.complex FloatKind.f64 0 0),IV.str [102,97,97],IV.str [97],IV.int .i64 1,IV.int .i64 0,IV.int .i64 0,IV.str [],IV.str [],IV.str [],IV.str [],IV.str [],IV.int .i64 0]]]).length=T:=⟨_,rfl⟩
 rw [b,J,I]
 obtain ⟨LW,hLW⟩:∃LW,L1++[Blk.cells 4 [[IV.int .i64 1,IV.str [],IV.str [],IV.int .i64 0]]]++[Blk.cells 13 [[IV.int .i64 1,IV.raw (Value.complex FloatKind.f64 0 0),IV.str [102,97,97],IV.str [97],IV.int .i64 1,IV.int .i64 0,IV.int .i64 0,IV.str [],IV.str [],IV.str [],IV.str [],IV.str [],IV.int .i64 0]]]++
    [Blk.cells 17 [[IV.str [102,97,97],IV.int .i64 0,IV.sl d 0 1 1,IV.str [],IV.str [102,97,97],IV.str [],IV.str [],IV.int .i64 0,IV.str [],IV.nsl,IV.nsl,IV.int .i64 1,IV.sl gt 0 1 1,IV.str [114],IV.str [121,101,115],IV.int .i64 0,IV.int .i64 0]]]=LW:=⟨_,rfl⟩
 have D:Keep none' L1 LW:=by rw [<-hLW];exact Keep.app (Keep.app (Keep.app Keep.refl))
 have ak:gt=d+1:=by rw [<-J,<-b];simp
 have ae:T=d+2:=by rw [<-I,<-b];simp
 have Y:LW[d]?=some (.cells 4 [e1.cells]):=by rw [<-hLW,<-b];simp [];rfl
 have ah:LW[gt]?=some (.cells 13 [tk0.cells]):=by rw [<-hLW,ak,<-b];simp [];rfl
 have S:LW[T]?=some (.cells 17 [z2s 0 (.sl d 0 1 1) st1 (.sl gt 0 1 1) [114] [121,101,115] 0 0]):=by rw [<-hLW,ae,<-b];simp [];rfl
 rw [hLW]
 have j:=D.get gp fun h=>h
 have dh:=zg j
 have bn:=zg S
 unfold plB at j
 have U:(z2s 0 (.sl d 0 1 1) st1 (.sl gt 0 1 1) [114] [121,101,115] 0 0).length=17:=rfl
 have ai:(z2s 0 (.sl d 0 1 1) st1 (.sl gt 0 1 1) [114] [121,101,115] 0 0).take 17=z2s 0 (.sl d 0 1 1) st1 (.sl gt 0 1 1) [114] [121,101,115] 0 0:=rfl
 simp only [j,S,U,ai,go_sem]
 have aj:L1[c]?=some (Wu t s 1 (fl 1) (fl 0) true):=by rw [z5u];exact O
 refine zh (zbq (E:=E.noPan) (kn:=none) (e:=e1) (st:=st1) (tk:=tk0) (n:=1) (m:=0) (ex:=0) (rq:=[114]) (an:=[121,101,115]) v ag (D.get gx fun h=>h) (D.get aj fun h=>h) (hS.keep D fun _ _ h=>h) s3 (by decide) od (fun p hp=>nomatch hp) rfl zdn rfl rfl od rfl zij Y zdo zaf rfl ah od od (by decide) (by decide) (by decide) z6r.1 z6r.2) ?_
 rintro r M ⟨g',rfl,gg,df,⟨FS',X,bz⟩,k2⟩
 have Q:zl M s FS' (NS+1000000) ((1:Nat):Int) dW:=X
 have Z:¬p=c:=fun h=>by subst h;rw [gp] at O;simp [plB,Wu] at O
 have au:¬x=c:=fun h=>by subst h;rw [gx] at O;simp [exB,Wu] at O
 have B:=k2.get j (fun h=>h.elim Z s1)
 have R:=k2.get (D.get gx fun h=>h) (fun h=>h.elim au s2)
 have cu:=zg B
 simp only [B,go_sem]
 refine zY (args':=[.int .i64 0]) rfl (Yy (E:=E.noPan) v) (fun _=>rfl) ?_
 simp only [go_sem]
 refine zh (Jj (E:=E.noPan) (kn:=some st1) (l:=[⟨rqK 0,[114],[121,101,115]⟩]) (rq:=[114]) v R Q (by rw [zd4];decide) zaN zew rfl zfI (fun q A=>by simp only [List.mem_singleton] at A;subst A;exact ⟨by decide,by decide⟩) (by decide)) ?_
 rintro r M2 ⟨rfl,rfl⟩
 have ea:V5 [⟨rqK 0,[114],[121,101,115]⟩] [114]=([121,101,115],true):=rfl
 rw [ea]
 have ln:lenOf (.sl g' 0 1 1)=some 1:=rfl
 have lg:=zg gg
 have G:=gg
 unfold Zf.cells Zf.withId tk0 at G
 have A:wE .eql (.complex .f64 (fl 1) (fl 1)) (.complex .f64 4607182418800017408 4607182418800017408)=some (.bool true):=by
  have ho:(FloatKind.f64.format.order 4607182418800017408 4607182418800017408==some .eq)=true:=by decide +kernel
  rw [z8P];simp only [wE,if_true,ho,Bool.and_self]
 simp only [B,zt ln,G,zdr A,go_sem]
 refine zh (Vu (E:=E.noPan) (l:=[(dpK 1 1,tk0.withId 1 1)]) v R Q (by rw [zd4];decide) zaN zek (fun q A=>by simp only [List.mem_singleton] at A;subst A;exact zaf) (by decide)) ?_
 rintro r M3 ⟨rfl,rfl⟩
 have V:lenOf (.isl (Yh [(dpK 1 1,tk0.withId 1 1)]))=some 1:=rfl
 simp only [zt V,go_sem]
 exact (k1.trans D fun _ _ h=>h).trans k2 fun u hu h=>by
  rcases h with h | h
  ·omega
  ·have:=af u h;omega
end
end Go.X.TryzW
end
section
open Go Go.X Go.Proofs
set_option maxRecDepth 100000
namespace Go.X.TryzW
theorem z4i:∀{n:Nat},n<16->unH (z3Z n)=n/\isH (z3Z n)
 | 0,_ | 1,_ | 2,_ | 3,_ | 4,_ | 5,_ | 6,_ | 7,_ | 8,_ | 9,_ | 10,_ | 11,_ | 12,_ | 13,_ | 14,_ | 15,_=>⟨by decide,by unfold isH;decide⟩
 | n+16,h=>by omega
theorem z6G:∀(f n k:Nat),k<=f->n<16^(k+1)->YL (z6x f n)=n/\(∀c∈z6x f n,isH c)/\(z6x f n).length<=k+1
 | 0,n,k,hk,h=>by
  obtain rfl:k=0:=by omega
  have h:n<16:=by simpa using h
  have:=z4i h
  simp only [z6x,Nat.mod_eq_of_lt h]
  exact ⟨by simp [YL,this.1],by simp [this.2],by simp⟩
 | f+1,n,k,hk,h=>by
  unfold z6x
  split
  ·rename_i h1
   have:=z4i h1
   exact ⟨by simp [YL,this.1],by simp [this.2],by simp⟩
  ·rename_i h1
   obtain ⟨k,rfl⟩:∃j,k=j+1:=⟨k - 1,by
    cases k with
    | zero=>simp at h;omega
    | succ k=>omega⟩
   have h2:n / 16<16^(k+1):=by
    rw [Nat.div_lt_iff_lt_mul (by decide)]
    rwa [Nat.pow_succ] at h
   obtain ⟨d,l,m⟩:=z6G f (n / 16) k od h2
   have b:=z4i (n:=n%16) (Nat.mod_lt _ (by decide))
   refine ⟨by rw [z2C,d,b.1];omega,fun c hc=>?_,by simp;omega⟩
   rcases List.mem_append.1 hc with h | h
   ·exact l c h
   ·rw [List.mem_singleton] at h;subst h;exact b.2
theorem zlQ:∀k,Lib.repeatL [48] k=List.replicate k 48
 | 0=>rfl
 | k+1=>by
  show [48]++Lib.repeatL [48] k=_
  rw [zlQ k];rfl
theorem z6E:∀k,YL (List.replicate k 48)=0
 | 0=>rfl
 | k+1=>by
  rw [List.replicate_succ,Vg,z6E k]
  have:unH 48=0:=by decide
  rw [this];omega
theorem z02 {n:Nat} (h:n<72057594037927936):YL (YN n)=n/\(∀c∈YN n,isH c)/\(YN n).length=14:=by
 obtain ⟨h1,h2,b⟩:=z6G 20 n 13 (by decide) h
 unfold YN hexT
 rw [zlQ]
 refine ⟨by rw [z6A,z6E,h1];omega,fun c hc=>?_,by simp;omega⟩
 rcases List.mem_append.1 hc with h | h
 ·rw [List.eq_of_mem_replicate h];exact .inl (by decide)
 ·exact h2 c h
theorem ja {a b:UInt8} {x y:List UInt8}:Op.bytesLess (a::x) (b::y)=true↔a<b\/a=b/\Op.bytesLess x y=true:=by
 rw [V3,List.cons_lt_cons_iff,V3]
theorem zdp:∀{x y:List UInt8},x.length=y.length->(∀c∈x,isH c)->(∀c∈y,isH c)->Op.bytesLess x y=true->YL x<=YL y
 | [],[],_,_,_,_=>Nat.le_refl _
 | a::x,b::y,hl,hx,hy,h=>by
  have d:x.length=y.length:=by simpa using hl
  have j:=fun c hc=>hx c (List.mem_cons_of_mem _ hc)
  have l:=fun c hc=>hy c (List.mem_cons_of_mem _ hc)
  rw [Vg,Vg,d]
  rcases ja.1 h with h1 | ⟨rfl,h2⟩
  ·have ha:=hx a List.mem_cons_self
   have m:=hy b List.mem_cons_self
   have q:a.toNat<b.toNat:=h1
   have p:unH a+1<=unH b:=by
    unfold isH at ha m
    unfold unH
    split<;>split<;>omega
   have h1:=z1o j
   rw [d] at h1
   have h2:=Nat.mul_le_mul_right (16^y.length) p
   rw [Nat.add_mul] at h2
   omega
  ·have:=zdp d j l h2
   omega
theorem zdB {m n:Nat} (b:m<72057594037927936) (d:n<72057594037927936) (h:rqK m=rqK n):m=n:=by
 unfold rqK at h
 have h1:=List.append_cancel_left h
 rw [<-(z02 b).1,<-(z02 d).1,h1]
theorem zde {m n:Nat} (d:n<72057594037927936) (h:m<n):Op.bytesLess (rqK m) (rqK n)=true:=by
 have b:m<72057594037927936:=by omega
 cases hb:Op.bytesLess (rqK m) (rqK n) with
 | true=>rfl
 | false=>
  exfalso
  have h1:=z2g hb fun h2=>by have:=zdB b d h2;omega
  unfold rqK at h1
  simp only [List.cons_append,List.nil_append,ja,true_and] at h1
  have h2:Op.bytesLess (YN n) (YN m)=true:=by
   rcases h1 with h1 | h1
   ·exact absurd h1 (UInt8.lt_irrefl _)
   rcases h1 with h1 | h1
   ·exact absurd h1 (UInt8.lt_irrefl _)
   rcases h1 with h1 | h1
   ·exact absurd h1 (UInt8.lt_irrefl _)
   rcases h1 with h1 | h1
   ·exact absurd h1 (UInt8.lt_irrefl _)
   rcases h1 with h1 | h1
   ·exact absurd h1 (UInt8.lt_irrefl _)
   rcases h1 with h1 | h1
   ·exact absurd h1 (UInt8.lt_irrefl _)
   exact h1
  obtain ⟨r,j,q⟩:=z02 b
  obtain ⟨s,l,p⟩:=z02 d
  have:=zdp (by rw [q,p]) l j h2
  omega
theorem z5F {k v:List UInt8}:∀{a b:KV},(∀q∈a,Op.bytesLess q.1 k=true)->KV.put (a++b) k v=a++KV.put b k v
 | [],b,_=>rfl
 | p::r,b,h=>by
  rw [List.cons_append,KV.put_cons,if_pos (h p List.mem_cons_self),z5F fun q d=>h q (List.mem_cons_of_mem _ d)]
  rfl
theorem z6z {k:List UInt8}:∀{a b:KV},(∀q∈a,q.1≠k)->KV.get (a++b) k=KV.get b k
 | [],b,_=>rfl
 | p::r,b,h=>by
  rw [List.cons_append]
  conv=>lhs;unfold KV.get
  rw [if_neg (h p List.mem_cons_self),z6z fun q d=>h q (List.mem_cons_of_mem _ d)]
theorem VY {k:List UInt8}:∀{m:KV},m.sorted->m.del k=m.filter fun p=>decide (p.1≠k)
 | [],_=>rfl
 | p::r,h=>by
  have b:=List.pairwise_cons.1 h
  unfold KV.del
  by_cases hk:p.1=k
  ·rw [if_pos hk,List.filter_cons_of_neg (by simp [hk])]
   symm
   rw [List.filter_eq_self]
   intro q d
   refine decide_eq_true fun j=>?_
   have:=b.1 q d
   rw [j,hk,YY] at this
   cases this
  ·rw [if_neg hk,List.filter_cons_of_pos (by simp [hk]),VY b.2]
def ZX (ks:List (List UInt8)):List OpV:=ks.map fun k=>⟨k,[],true⟩
theorem z3e:∀(ks:List (List UInt8)) {d:KV},d.sorted->d.puts (ZX ks)=d.filter fun p=>decide (p.1∉ks)
 | [],d,_=>(List.filter_eq_self.2 (by simp)).symm
 | k::ks,d,h=>by
  have e:d.puts (ZX (k::ks))=(d.del k).puts (ZX ks):=rfl
  rw [e,z3e ks (KV.sorted_del d k h),VY h,List.filter_filter]
  congr 1
  funext p
  simp [Bool.and_comm]
theorem jT (d:KV) (a b:List OpV):d.puts (a++b)=(d.puts a).puts b:=by simp [KV.puts]
theorem z1Q:∀{a b:List OpV} {d:KV},gok d a->gok (d.puts a) b->gok d (a++b)
 | [],_,_,_,h=>h
 | o::a,b,d,h,h'=>⟨h.1,z1Q (d:=d.step o) h.2 h'⟩
theorem get_mem {m:KV} {k:List UInt8} (h:∃v,(k,v)∈m):(m.get k).isSome=true:=by
 obtain ⟨v,h⟩:=h
 induction m with
 | nil=>cases h
 | cons p r b=>
  unfold KV.get
  by_cases hk:p.1=k
  ·rw [if_pos hk];rfl
  ·rw [if_neg hk]
   rcases List.mem_cons.1 h with h | h
   ·subst h;exact absurd rfl hk
   ·exact b h
theorem z6l:∀{ks:List (List UInt8)} {d:KV},d.sorted->ks.Nodup->(∀k∈ks,∃v,(k,v)∈d)->(∃p∈d,p.1∉ks)->gok d (ZX ks)
 | [],_,_,_,_,_=>trivial
 | k::ks,d,h,hn,hk,⟨p,hp,hpk⟩=>by
  have b:=List.nodup_cons.1 hn
  have e:=VY (k:=k) h
  have l:p∈d.del k:=by
   rw [e,List.mem_filter]
   exact ⟨hp,decide_eq_true fun h=>hpk (h▸List.mem_cons_self)⟩
  refine ⟨fun _=>⟨get_mem (hk k List.mem_cons_self),List.ne_nil_of_mem l⟩,?_⟩
  refine z6l (d:=d.del k) (KV.sorted_del d k h) b.2 (fun j m=>?_) ⟨p,l,fun h=>hpk (List.mem_cons_of_mem _ h)⟩
  obtain ⟨v,q⟩:=hk j (List.mem_cons_of_mem _ m)
  refine ⟨v,?_⟩
  rw [e,List.mem_filter]
  exact ⟨q,decide_eq_true fun h=>b.1 (h▸m)⟩
def nK:List UInt8:=[110,47,48,48,48]
def sK:List UInt8:=[115,47,48,48,48]
def dOf (s:List UInt8) (l:List RqV):KV:=[(nK,faa)]++(jC l++[(sK,s)])
def Nums (l:List RqV) (m:Nat):Prop:=∃ns:List Nat,l.map RqV.key=ns.map rqK/\ns.Pairwise (·<·)/\∀n∈ns,n<m
theorem Nums.key {l:List RqV} {m:Nat} (h:Nums l m) {q:RqV} (p:q∈l):∃n,n<m/\q.key=rqK n:=by
 obtain ⟨d,h1,h2,r⟩:=h
 have:q.key∈d.map rqK:=by rw [<-h1];exact List.mem_map.2 ⟨q,p,rfl⟩
 obtain ⟨n,j,b⟩:=List.mem_map.1 this
 exact ⟨n,r n j,b.symm⟩
theorem Nums.sub {l j:List RqV} {m:Nat} (h:Nums l m) (hs:j.Sublist l):Nums j m:=by
 obtain ⟨s,h1,h2,r⟩:=h
 have b:=hs.map RqV.key
 rw [h1] at b
 obtain ⟨d,p,q⟩:=List.sublist_map_iff.1 b
 exact ⟨d,q,h2.sublist p,fun n h=>r n (p.subset h)⟩
theorem Nums.snoc {l:List RqV} {m:Nat} (h:Nums l m) {rq an:List UInt8}:Nums (l++[⟨rqK m,rq,an⟩]) (m+1):=by
 obtain ⟨p,h1,h2,j⟩:=h
 refine ⟨p++[m],by simp [h1],?_,fun n q=>?_⟩
 ·rw [List.pairwise_append]
  refine ⟨h2,by simp,fun a ha b d=>?_⟩
  rw [List.mem_singleton] at d;subst d;exact j a ha
 ·rcases List.mem_append.1 q with h | h
  ·have:=j n h;omega
  ·rw [List.mem_singleton] at h;omega
theorem Nums.lt {l:List RqV} {m:Nat} (h:Nums l m) (r:m<72057594037927936):l.Pairwise fun a b=>Op.bytesLess a.key b.key=true:=by
 obtain ⟨q,h1,h2,p⟩:=h
 rw [<-List.pairwise_map (f:=RqV.key) (R:=fun a b=>Op.bytesLess a b=true),h1,List.pairwise_map]
 refine List.Pairwise.imp_of_mem ?_ h2
 intro a b ha j d
 exact zde (by have:=p b j;omega) d
theorem Nums.nodup {l:List RqV} {m:Nat} (h:Nums l m) (d:m<72057594037927936):(l.map RqV.key).Nodup:=by
 have:=h.lt d
 rw [<-List.pairwise_map (f:=RqV.key) (R:=fun a b=>Op.bytesLess a b=true)] at this
 exact this.imp fun h h2=>by rw [h2,YY] at h;cases h
theorem jX (n:Nat):rqK n=[114,47,48,48,48,47]++YN n:=rfl
theorem zdj (n:Nat):Op.bytesLess nK (rqK n)=true:=ja.2 (.inl (by decide))
theorem zam (n:Nat):Op.bytesLess (rqK n) sK=true:=ja.2 (.inl (by decide))
theorem zd5:Op.bytesLess nK sK=true:=ja.2 (.inl (by decide))
theorem Yu {s:List UInt8} {l:List RqV} {m:Nat} (h:Nums l m) (r:m<72057594037927936):(dOf s l).sorted:=by
 unfold KV.sorted dOf
 rw [List.pairwise_append,List.pairwise_append]
 refine ⟨by simp,⟨?_,by simp,fun a ha b d=>?_⟩,fun a ha b d=>?_⟩
 ·unfold jC
  rw [List.pairwise_map]
  exact h.lt r
 ·rw [List.mem_singleton] at d;subst d
  obtain ⟨q,p,rfl⟩:=List.mem_map.1 ha
  obtain ⟨n,_,j⟩:=h.key p
  show Op.bytesLess q.key sK=true
  rw [j];exact zam n
 ·rw [List.mem_singleton] at ha;subst ha
  rcases List.mem_append.1 d with d | d
  ·obtain ⟨q,p,rfl⟩:=List.mem_map.1 d
   obtain ⟨n,_,j⟩:=h.key p
   show Op.bytesLess nK q.key=true
   rw [j];exact zdj n
  ·rw [List.mem_singleton] at d;subst d;exact zd5
theorem z8R {s:List UInt8} {l:List RqV} {m:Nat} (h:Nums l m) {p:List UInt8 × List UInt8} (b:p∈dOf s l):p.1=nK\/p.1=sK\/∃n,n<m/\p.1=rqK n:=by
 unfold dOf at b
 rcases List.mem_append.1 b with b | b
 ·rw [List.mem_singleton] at b;subst b;exact .inl rfl
 rcases List.mem_append.1 b with b | b
 ·obtain ⟨q,d,rfl⟩:=List.mem_map.1 b
  exact .inr (.inr (h.key d))
 ·rw [List.mem_singleton] at b;subst b;exact .inr (.inl rfl)
theorem WZ {s:List UInt8} {l:List RqV} {m:Nat} (h:Nums l m) (P:List UInt8->Bool) (b:Bool) (u:∀n,P (rqK n)=b) :
  (dOf s l).filter (fun p=>P p.1)=(if P nK then [(nK,faa)] else [])++((if b then jC l else [])++if P sK then [(sK,s)] else []):=by
 unfold dOf
 rw [List.filter_append,List.filter_append]
 have v:(jC l).filter (fun p=>P p.1)=if b then jC l else []:=by
  cases b with
  | true=>
   rw [if_pos rfl,List.filter_eq_self]
   intro p r
   obtain ⟨q,d,rfl⟩:=List.mem_map.1 r
   obtain ⟨n,_,j⟩:=h.key d
   show P q.key=true
   rw [j,u]
  | false=>
   rw [if_neg (by simp),List.filter_eq_nil_iff]
   intro p r
   obtain ⟨q,d,rfl⟩:=List.mem_map.1 r
   obtain ⟨n,_,j⟩:=h.key d
   show ¬P q.key=true
   rw [j,u];simp
 rw [v]
 have h1:∀x:List UInt8 × List UInt8,[x].filter (fun p=>P p.1)=if P x.1 then [x] else []:=fun x=>by
  cases hx:P x.1<;>simp [hx]
 rw [h1,h1]
theorem z0X {a b:UInt8} {k p:List UInt8} (h:a≠b):pfx (a::k) (b::p)=false:=by
 cases hp:pfx (a::k) (b::p) with
 | false=>rfl
 | true=>
  have:=z04.1 hp
  rw [List.cons_prefix_cons] at this
  exact absurd this.1.symm h
theorem z1F {s:List UInt8} {l:List RqV} {m:Nat} (h:Nums l m) (b:m<72057594037927936):(dOf s l).list [114,47,48,48,48,47]=jC l:=by
 rw [KV.list_eq (Yu h b),WZ h (fun k=>pfx k [114,47,48,48,48,47]) true (fun n=>z04.2 ⟨YN n,rfl⟩)]
 simp only [show pfx nK [114,47,48,48,48,47]=false from z0X (by decide),show pfx sK [114,47,48,48,48,47]=false from z0X (by decide)]
 simp
theorem z8O {s:List UInt8} {l:List RqV} {m:Nat} (h:Nums l m) (b:m<72057594037927936):(dOf s l).list [110,47]=[(nK,faa)]:=by
 rw [KV.list_eq (Yu h b),WZ h (fun k=>pfx k [110,47]) false (fun n=>z0X (by decide))]
 simp only [show pfx nK [110,47]=true from by decide,show pfx sK [110,47]=false from by decide]
 simp
theorem VG {s:List UInt8} {l:List RqV} {m:Nat} (h:Nums l m) (d:m<72057594037927936) {c:UInt8} {p:List UInt8} (h1:(110:UInt8)≠c) (h2:(114:UInt8)≠c) (b:(115:UInt8)≠c):(dOf s l).list (c::p)=[]:=by
 rw [KV.list_eq (Yu h d),WZ h (fun k=>pfx k (c::p)) false (fun n=>z0X h2)]
 simp only [show pfx nK (c::p)=false from z0X h1,show pfx sK (c::p)=false from z0X b]
 simp
theorem z5T {s:List UInt8} {l:List RqV} {m:Nat} (h:Nums l m) {c:UInt8} {p:List UInt8} (h1:(110:UInt8)≠c) (h2:(114:UInt8)≠c) (j:(115:UInt8)≠c):(dOf s l).get (c::p)=none:=by
 refine KV.get_none fun q r b=>?_
 rcases z8R h r with d | d | ⟨n,_,d⟩<;>rw [d] at b
 ·exact h1 (List.cons.inj b).1
 ·exact j (List.cons.inj b).1
 ·exact h2 (List.cons.inj b).1
theorem Vy {st:StV} {l:List RqV} {m:Nat} (h:Nums l m) (u:m<72057594037927936) (d:st.ok):YH (dOf (strOf st.bytes) l) (some st):=by
 refine ⟨?_,?_,d⟩
 ·rw [KV.scan_eq (Yu h u) (by simp),WZ h (fun k=>!Op.bytesLess k [110,47]&&Op.bytesLess k [110,48]) false (fun n=>?_)]
  ·have e1:(!Op.bytesLess nK [110,47]&&Op.bytesLess nK [110,48])=true:=by decide
   have p:(!Op.bytesLess sK [110,47]&&Op.bytesLess sK [110,48])=false:=by decide
   simp only [e1,p]
   simp
   rfl
  ·have:Op.bytesLess (rqK n) [110,48]=false:=by
    cases hb:Op.bytesLess (rqK n) [110,48] with
    | false=>rfl
    | true=>
     rcases ja.1 hb with h | h
     ·exact absurd h (by decide)
     ·exact absurd h.1 (by decide)
   simp [this]
 ·show (dOf (strOf st.bytes) l).get sK=_
  unfold dOf
  rw [<-List.append_assoc,z6z]
  ·rfl
  ·intro q b
   rcases List.mem_append.1 b with b | b
   ·rw [List.mem_singleton] at b;subst b;decide
   ·obtain ⟨r,j,rfl⟩:=List.mem_map.1 b
    obtain ⟨n,_,s⟩:=h.key j
    show r.key≠sK
    rw [s]
    intro h2
    exact absurd (List.cons.inj h2).1 (by decide)
theorem wW {s:List UInt8} {l:List RqV} {m:Nat} (h:Nums l m):∀p∈dOf s l,p.1.length<=1000:=by
 intro p d
 rcases z8R h d with b | b | ⟨n,_,b⟩<;>rw [b]
 ·decide
 ·decide
 ·have:=ZK n
  rw [jX];simp;omega
theorem vZ {s:List UInt8} {l:List RqV}:(dOf s l).length=l.length+2:=by simp [dOf,jC]<;>omega
def z2R (f:List RqV):List RqV:=if 64<=f.length then f.drop 1 else f
def z2q (f:List RqV):List (List UInt8):=if 64<=f.length then (f.take 1).map RqV.key else []
def Z7 (l:List RqV) (rq:List UInt8):List RqV:=l.filter fun q=>decide (¬q.req=rq)
def Y8 (l:List RqV) (rq:List UInt8):List RqV:=l.filter fun q=>decide (q.req=rq)
def nextL (l:List RqV) (rq an:List UInt8) (m:Nat):List RqV:=z2R (Z7 l rq)++[⟨rqK m,rq,an⟩]
def z2r (s:List UInt8) (l:List RqV) (rq an:List UInt8) (m:Nat):List OpV:=
 [⟨nK,faa,false⟩,⟨sK,s,false⟩]++ZX ((Y8 l rq).map RqV.key)++ZX (z2q (Z7 l rq))++[⟨rqK m,strOf (yI [⟨rq,an,false⟩]),false⟩]
theorem Y3 {l:List RqV} {rq:List UInt8}:(Z7 l rq).Sublist l:=List.filter_sublist
theorem Wx {l:List RqV}:(z2R l).Sublist l:=by
 unfold z2R
 split
 ·exact List.drop_sublist _ _
 ·exact List.Sublist.refl _
theorem z7o {l:List RqV} {rq an:List UInt8} {m:Nat} (h:Nums l m):Nums (nextL l rq an m) (m+1):=(h.sub (Wx.trans Y3)).snoc
theorem z5R {s:List UInt8} {l d:List RqV} {ks:List (List UInt8)} {m:Nat} (h:Nums l m) (p:m<72057594037927936) (j:∀k∈ks,∃n,k=rqK n) (b:d=l.filter fun q=>decide (q.key∉ks)):(dOf s l).puts (ZX ks)=dOf s d:=by
 rw [z3e ks (Yu h p)]
 have h1:nK∉ks:=fun h=>by obtain ⟨n,b⟩:=j _ h;exact absurd (List.cons.inj b).1 (by decide)
 have h2:sK∉ks:=fun h=>by obtain ⟨n,b⟩:=j _ h;exact absurd (List.cons.inj b).1 (by decide)
 unfold dOf
 rw [List.filter_append,List.filter_append,List.filter_cons_of_pos (by simp [h1]),List.filter_cons_of_pos (by simp [h2])]
 congr 2
 unfold jC
 rw [b,List.filter_map]
 rfl
theorem zbQ {l:List RqV} (s:(l.map RqV.key).Nodup) (P:RqV->Bool):l.filter (fun q=>decide (q.key∉(l.filter P).map RqV.key))=l.filter fun q=>!P q:=by
 apply List.filter_congr
 intro q d
 cases hp:P q with
 | true=>simp only [Bool.not_true,decide_eq_false_iff_not,Classical.not_not];exact List.mem_map.2 ⟨q,List.mem_filter.2 ⟨d,hp⟩,rfl⟩
 | false=>
  simp only [Bool.not_false,decide_eq_true_eq]
  intro h
  obtain ⟨p,b,r⟩:=List.mem_map.1 h
  obtain ⟨h1,h2⟩:=List.mem_filter.1 b
  have:p=q:=by
   obtain ⟨i,hi,rfl⟩:=List.getElem_of_mem h1
   obtain ⟨j,m,rfl⟩:=List.getElem_of_mem d
   have:=(List.getElem_inj (i:=i) (j:=j) (h₀:=by simpa using hi) (h₁:=by simpa using m) s).1 (by simpa using r)
   subst this;rfl
  subst this
  rw [hp] at h2;cases h2
theorem z6J {s:List UInt8} {l:List RqV} {rq:List UInt8} {m:Nat} (h:Nums l m) (b:m<72057594037927936):(dOf s l).puts (ZX ((Y8 l rq).map RqV.key))=dOf s (Z7 l rq):=by
 refine z5R h b (fun k j=>?_) ?_
 ·obtain ⟨q,p,rfl⟩:=List.mem_map.1 j
  obtain ⟨n,_,d⟩:=h.key (List.mem_filter.1 p).1
  exact ⟨n,d⟩
 ·unfold Y8 Z7
  rw [zbQ (h.nodup b)]
  congr 1
  funext q
  simp
theorem zeH {s:List UInt8} {f:List RqV} {m:Nat} (h:Nums f m) (l:m<72057594037927936):(dOf s f).puts (ZX (z2q f))=dOf s (z2R f):=by
 unfold z2q z2R
 split
 ·refine z5R h l (fun k p=>?_) ?_
  ·obtain ⟨q,j,rfl⟩:=List.mem_map.1 p
   obtain ⟨n,_,d⟩:=h.key (List.mem_of_mem_take j)
   exact ⟨n,d⟩
  ·have r:=h.nodup l
   cases f with
   | nil=>rfl
   | cons a f=>
    have b:=List.nodup_cons.1 r
    simp only [List.take_succ_cons,List.take_zero,List.map_cons,List.map_nil,List.drop_succ_cons,List.drop_zero]
    rw [List.filter_cons_of_neg (by simp)]
    symm
    rw [List.filter_eq_self]
    intro q j
    simp only [List.mem_singleton,decide_not,Bool.not_eq_true',decide_eq_false_iff_not]
    intro d
    exact b.1 (d▸List.mem_map.2 ⟨q,j,rfl⟩)
 ·rfl
theorem zdX {s:List UInt8} {f:List RqV} {rq an:List UInt8} {m:Nat} (h:Nums f m) (r:m<72057594037927936):(dOf s f).put (rqK m) (strOf (yI [⟨rq,an,false⟩]))=dOf s (f++[⟨rqK m,rq,an⟩]):=by
 unfold dOf
 rw [<-List.append_assoc,z5F]
 ·rw [KV.put_head]
  ·simp [jC,RqV.val]
  ·intro q b
   rw [List.mem_singleton] at b;subst b;exact zam m
 ·intro q b
  rcases List.mem_append.1 b with b | b
  ·rw [List.mem_singleton] at b;subst b;exact zdj m
  ·obtain ⟨j,d,rfl⟩:=List.mem_map.1 b
   obtain ⟨n,p,l⟩:=h.key d
   show Op.bytesLess j.key _=true
   rw [l];exact zde r p
theorem z5V {s s':List UInt8} {l:List RqV} {m:Nat} (h:Nums l m):(dOf s l).puts [⟨nK,faa,false⟩,⟨sK,s',false⟩]=dOf s' l:=by
 show ((dOf s l).put nK faa).put sK s'=_
 have e1:(dOf s l).put nK faa=dOf s l:=by
  unfold dOf
  rw [List.cons_append,KV.put_cons,YY,if_neg (by simp),if_pos rfl]
 rw [e1]
 unfold dOf
 rw [<-List.append_assoc,z5F]
 ·rw [List.append_assoc]
  congr 2
 ·intro q b
  rcases List.mem_append.1 b with b | b
  ·rw [List.mem_singleton] at b;subst b;exact zd5
  ·obtain ⟨j,d,rfl⟩:=List.mem_map.1 b
   obtain ⟨n,r,p⟩:=h.key d
   show Op.bytesLess j.key _=true
   rw [p];exact zam n
def dSt:Option (List UInt8)->List RqV->KV
 | none,_=>[]
 | some s,l=>dOf s l
theorem zab {o:Option (List UInt8)} {s':List UInt8} {l:List RqV} {rq an:List UInt8} {m:Nat} (h:Nums l m) (b:m<72057594037927936) (j:o=none->l=[]):(dSt o l).puts (z2r s' l rq an m)=dOf s' (nextL l rq an m):=by
 have h2:=h.sub (Y3 (rq:=rq))
 have p:=h2.sub Wx
 have d:(dSt o l).puts [⟨nK,faa,false⟩,⟨sK,s',false⟩]=dOf s' l:=by
  cases o with
  | none=>rw [j rfl];rfl
  | some s=>exact z5V h
 unfold z2r
 rw [jT,jT,jT,d,z6J h b,zeH h2 b]
 exact zdX p b
theorem zbu {o:Option (List UInt8)} {s':List UInt8} {l:List RqV} {rq an:List UInt8} {m:Nat} (h:Nums l m) (r:m<72057594037927936) (A:o=none->l=[]):gok (dSt o l) (z2r s' l rq an m):=by
 have h2:=h.sub (Y3 (rq:=rq))
 have v:(dSt o l).puts [⟨nK,faa,false⟩,⟨sK,s',false⟩]=dOf s' l:=by
  cases o with
  | none=>rw [A rfl];rfl
  | some s=>exact z5V h
 have u:∀{f:List RqV} {ks:List (List UInt8)},Nums f m->ks.Sublist (f.map RqV.key)->gok (dOf s' f) (ZX ks):=fun {f ks} j hs=>by
  refine z6l (Yu j r) ((j.nodup r).sublist hs) (fun k p=>?_) ⟨(nK,faa),by simp [dOf],fun p=>?_⟩
  ·obtain ⟨q,b,rfl⟩:=List.mem_map.1 (hs.subset p)
   exact ⟨q.val,by unfold dOf jC;simp only [List.mem_append,List.mem_map];exact .inr (.inl ⟨q,b,rfl⟩)⟩
  ·obtain ⟨q,b,w⟩:=List.mem_map.1 (hs.subset p)
   obtain ⟨n,_,d⟩:=j.key b
   rw [d] at w
   exact absurd (List.cons.inj w).1 (by decide)
 unfold z2r
 refine z1Q (z1Q (z1Q (z2Q fun q b=>?_) ?_) ?_) (z2Q fun q b=>?_)
 ·simp only [List.mem_cons,List.not_mem_nil,or_false] at b
  rcases b with rfl | rfl<;>rfl
 ·rw [v]
  exact u h (List.filter_sublist.map _)
 ·rw [jT,v,z6J h r]
  refine u h2 ?_
  unfold z2q
  split
  ·exact (List.take_sublist _ _).map _
  ·exact List.nil_sublist _
 ·rw [List.mem_singleton] at b;subst b;rfl
def yj (l:List RqV):List (List UInt8 × List UInt8):=l.map fun q=>(q.req,q.ans)
theorem zaw (l:List RqV) (rq an:List UInt8) (m:Nat):yj (nextL l rq an m)=yf (yj l) rq an:=by
 have e:(yj l).filter (fun p=>decide (¬p.1=rq))=yj (Z7 l rq):=by
  unfold yj Z7
  rw [List.filter_map]
  rfl
 unfold yf
 rw [e]
 unfold nextL z2R
 have b:(yj (Z7 l rq)++[(rq,an)]).length=(Z7 l rq).length+1:=by simp [yj]
 by_cases h:64<=(Z7 l rq).length
 ·rw [if_pos h]
  simp only []
  rw [if_pos od]
  unfold yj
  rw [List.map_append,List.drop_append_of_le_length (by simp;omega),List.map_drop]
  rfl
 ·rw [if_neg h]
  simp only []
  rw [if_neg od]
  simp [yj]
theorem zaV {l:List RqV} {rq an:List UInt8} {m:Nat} (h:l.length<=64):(nextL l rq an m).length<=64:=by
 have:=(Y3 (l:=l) (rq:=rq)).length_le
 unfold nextL z2R
 split<;>simp<;>omega
theorem zc1 {l:List RqV} {rq an:List UInt8} {m:Nat} (h:∀q∈l,q.ok) (d:rq.length<=5000) (ha:an.length<=5000):∀q∈nextL l rq an m,q.ok:=by
 intro q b
 rcases List.mem_append.1 b with b | b
 ·exact h q ((Wx.trans Y3).subset b)
 ·rw [List.mem_singleton] at b;subst b;exact ⟨d,ha⟩
end Go.X.TryzW
end
