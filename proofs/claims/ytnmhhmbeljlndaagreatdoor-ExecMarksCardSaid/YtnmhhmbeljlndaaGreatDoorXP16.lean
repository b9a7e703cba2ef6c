/- Parts of the proof: XhRep, Xhcon1, Xhfm, Xhlease1, Xhlease2, Xhshard1, Xhexec1, Xhexec2, Xhexec3, Xhst1, Xhst2, Xhst3, Xhcm1, Xhev, Xhrt, Xhro, Xhcon2, Xhkeys, Xhrq, Xhtk, Xhnx, Xhrf. -/
import Derived.Test.YtnmhhmbeljlndaaGreatDoorXP15
import Derived.Ground.Names2Prog
import Derived.Shelf.Strings.Repeat
import Derived.Test.YtnmhhmbeljlndaaGreatDoorProg
set_option linter.unusedVariables false
set_option linter.unusedSimpArgs false
set_option linter.unusedSectionVars false
section
namespace Go.Proofs
open Go.Shelf
def Tryz.lays105_ren:Go.Shelf.Ren:=⟨fun | 105=>159 | 212=>218 | 99=>92 | 165=>219 | 166=>220 | 170=>221 | 169=>222 | 263=>281 | 264=>282 | 206=>170 | 240=>283 | 241=>284 | 276=>321 | 277=>322 | n=>n,fun | 9=>9 | 3=>3 | 4=>4 | 20=>20 | 0=>0 | 46=>275 | 109=>320 | 5=>5 | 72=>324 | 76=>325 | 51=>311 | 146=>368 | 53=>290 | 148=>370 | 70=>322 | 37=>53 | 75=>214 | 127=>372 | 164=>398 | 80=>190 | n=>n,fun | n=>n⟩
theorem Tryz.lays105:Go.Proofs.Lays.n105 Tryz.prog Tryz.lays105_ren:={
 mixed:=by kernel_rfl
 f99:=Tryz.func92.trans (congrArg some (by kernel_rfl))
 f105:=Tryz.func159.trans (congrArg some (by kernel_rfl))
 f165:=Tryz.func219.trans (congrArg some (by kernel_rfl))
 f166:=Tryz.func220.trans (congrArg some (by kernel_rfl))
 f169:=Tryz.func222.trans (congrArg some (by kernel_rfl))
 f170:=Tryz.func221.trans (congrArg some (by kernel_rfl))
 f206:=Tryz.func170.trans (congrArg some (by kernel_rfl))
 f212:=Tryz.func218.trans (congrArg some (by kernel_rfl))
 f240:=Tryz.func283.trans (congrArg some (by kernel_rfl))
 f241:=Tryz.func284.trans (congrArg some (by kernel_rfl))
 f263:=Tryz.func281.trans (congrArg some (by kernel_rfl))
 f264:=Tryz.func282.trans (congrArg some (by kernel_rfl))
 f276:=Tryz.func321.trans (congrArg some (by kernel_rfl))
 f277:=Tryz.func322.trans (congrArg some (by kernel_rfl))
 t0:=Tryz.underlying0
 a0:=Tryz.isAgg0
 z0:=Tryz.sizeOf0
 v0:=Tryz.zeroValue0
 t3:=Tryz.underlying3
 a3:=Tryz.isAgg3
 z3:=Tryz.sizeOf3
 v3:=Tryz.zeroValue3
 t4:=Tryz.underlying4
 a4:=Tryz.isAgg4
 z4:=Tryz.sizeOf4
 v4:=Tryz.zeroValue4
 t5:=Tryz.underlying5
 a5:=Tryz.isAgg5
 z5:=Tryz.sizeOf5
 v5:=Tryz.zeroValue5
 t9:=Tryz.underlying9
 a9:=Tryz.isAgg9
 z9:=Tryz.sizeOf9
 v9:=Tryz.zeroValue9
 t20:=Tryz.underlying20
 a20:=Tryz.isAgg20
 z20:=Tryz.sizeOf20
 v20:=Tryz.zeroValue20
 t37:=Tryz.underlying53
 a37:=Tryz.isAgg53
 z37:=Tryz.sizeOf53
 v37:=Tryz.zeroValue53
 t46:=Tryz.underlying275
 a46:=Tryz.isAgg275
 z46:=Tryz.sizeOf275
 v46:=Tryz.zeroValue275
 t51:=Tryz.underlying311
 a51:=Tryz.isAgg311
 z51:=Tryz.sizeOf311
 v51:=Tryz.zeroValue311
 t53:=Tryz.underlying290
 a53:=Tryz.isAgg290
 z53:=Tryz.sizeOf290
 v53:=Tryz.zeroValue290
 t70:=Tryz.underlying322
 a70:=Tryz.isAgg322
 z70:=Tryz.sizeOf322
 v70:=Tryz.zeroValue322
 t72:=Tryz.underlying324
 a72:=Tryz.isAgg324
 z72:=Tryz.sizeOf324
 v72:=Tryz.zeroValue324
 t75:=Tryz.underlying214
 a75:=Tryz.isAgg214
 z75:=Tryz.sizeOf214
 v75:=Tryz.zeroValue214
 t76:=Tryz.underlying325
 a76:=Tryz.isAgg325
 z76:=Tryz.sizeOf325
 v76:=Tryz.zeroValue325
 t109:=Tryz.underlying320
 a109:=Tryz.isAgg320
 z109:=Tryz.sizeOf320
 v109:=Tryz.zeroValue320
 t127:=Tryz.underlying372
 a127:=Tryz.isAgg372
 z127:=Tryz.sizeOf372
 v127:=Tryz.zeroValue372
 t146:=Tryz.underlying368
 a146:=Tryz.isAgg368
 z146:=Tryz.sizeOf368
 v146:=Tryz.zeroValue368
 t148:=Tryz.underlying370
 a148:=Tryz.isAgg370
 z148:=Tryz.sizeOf370
 v148:=Tryz.zeroValue370
 t164:=Tryz.underlying398
 a164:=Tryz.isAgg398
 z164:=Tryz.sizeOf398
 v164:=Tryz.zeroValue398 }
theorem Tryz.Builder_Extra_105:Builder.Extra Tryz.prog Tryz.lays105_ren:={
 sizeBuilder:=by kernel_rfl
 liesBuilder:=by kernel_rfl
 t5:=Tryz.underlying5
 a5:=Tryz.isAgg5
 z5:=Tryz.sizeOf5
 v5:=Tryz.zeroValue5
 infoByte:=by kernel_rfl
 cellsByte:=by kernel_rfl
 sizeByte:=by kernel_rfl
 neB5:=by decide }
open Go.RowKit Go.Lib in
/-- **strings.Repeat: count ≥ 0, the result within one allocation: count copies of s.** (LAID: no walk: one application.) -/
theorem Tryz.strings_Repeat (s:ByteArray) (c:Nat) (w:World) (hc:c<=9223372036854775807) (hlen:s.size*c<=140737488355328) :
  Calls Tryz.prog 159 #[.string s,.int .i64 c] w fun e w'=>e=.returned (.string ⟨(Lib.repeatL s.data.toList c).toArray⟩)/\Below w.heap.size w w':=Any.strings_Repeat Tryz.lays105 Tryz.Builder_Extra_105 s c w hc hlen
end Go.Proofs
open Go Go.X Go.Proofs
set_option maxRecDepth 100000
set_option maxHeartbeats 4000000
namespace Go.X.TryzW
section
variable {E:Env}
theorem WZ (hP:E.P=Tryz.prog) (s:List UInt8) (c:Nat) (hc:c<=1000000) (hs:s.length<=1000):zI E 159 [.str s,.int .i64 c] (.str (Lib.repeatL s c)):=by
 refine z4B ⟨Tryz.f159,by rw [hP];exact Tryz.func159,by decide,by rfl⟩ fun C vs _ hG _ _ hl hv=>?_
 obtain ⟨a,b,rfl,h1,h2⟩:=two hl hv
 cases h1;cases h2
 rw [hP]
 have hm:s.length*c<=1000*1000000:=Nat.mul_le_mul hs hc
 refine (Tryz.strings_Repeat ⟨s.toArray⟩ c C.w (by omega) (by simp [ByteArray.size];omega)).mono fun e w' ⟨he,hb⟩=>?_
 exact ⟨_,he,hb,.str _⟩
end
end Go.X.TryzW
end
section
open Go Go.X Go.Proofs
set_option maxRecDepth 100000
set_option maxHeartbeats 4000000
namespace Go.X.TryzW

def tabE (P:Program):Tab where
 T:=tabT P
 pre:=fun f args=>match f,args with
  | 159,[.str s,.int .i64 (.ofNat c)]=>if c<=1000000/\s.length<=1000 then some (.str (Lib.repeatL s c)) else none
  | _,_=>none
 ext:=fun f args=>match f,args with
  | 335,[.raw (.float .f64 b)]=>some (.int .u64 b)
  | 365,[.int .u64 n]=>some (.raw (.float .f64 n.toNat))
  | 336,[.raw (.float .f64 0)]=>some (.raw (.float .f64 0))
  | 336,[.raw (.float .f64 4607182418800017408)]=>some (.raw (.float .f64 4607182418800017408))
  | _,_=>none
section
variable {E:Env} {ρ:Rho} {L:List Blk} {K:IV->List Blk->Prop}
theorem y5 (hP:E.P=Tryz.prog):zeI E (tabE Tryz.prog) where
 T:=by rw [hP];exact zcE
 pre:=fun f args r h=>by
  simp only [tabE] at h
  split at h
  ·split at h
   ·rename_i hc;cases h;exact WZ hP _ _ hc.1 hc.2
   ·cases h
  ·cases h
 ext:=fun f args r h=>by
  simp only [tabE] at h
  split at h
  ·cases h;exact z4I (fn:=Tryz.f335) (by rw [hP];rfl) (by rfl) (by rfl) (by rfl) (by rfl) _
  ·cases h;exact z4l (fn:=Tryz.f365) (by rw [hP];rfl) (by rfl) (by rfl) (by rfl) (by rfl) _
  ·cases h;exact z8d (fn:=Tryz.f336) (by rw [hP];rfl) (by rfl) (by rfl) (by rfl) (by rfl) (fun _=>by kernel_rfl) rfl
  ·cases h;exact z8d (fn:=Tryz.f336) (by rw [hP];rfl) (by rfl) (by rfl) (by rfl) (by rfl) (fun _=>by kernel_rfl) rfl
  ·cases h
theorem zcu (gl:Nat->Option (List IV)):Yp (tabE Tryz.prog) gl 300 30 274 [.int .i64 1]=some (.str [108,101,97,115,101,47,49]):=by kernel_rfl
theorem z2X (hP:E.P=Tryz.prog):zI E 274 [.int .i64 1] (.str [108,101,97,115,101,47,49]):=zL (y5 hP) (zcu E.gl)
theorem z3C (gl:Nat->Option (List IV)):Yp (tabE Tryz.prog) gl 300 30 37 [.str [102,97,97],.int .i64 3]=some (.int .i64 1):=by kernel_rfl
theorem Yy (hP:E.P=Tryz.prog):zI E 37 [.str [102,97,97],.int .i64 3] (.int .i64 1):=zL (y5 hP) (z3C E.gl)
theorem z7q (gl:Nat->Option (List IV)):Yp (tabE Tryz.prog) gl 300 30 8 [.int .i64 0]=some (.str [102,97,97]):=by kernel_rfl
theorem Yk (hP:E.P=Tryz.prog):zI E 8 [.int .i64 0] (.str [102,97,97]):=zL (y5 hP) (z7q E.gl)
theorem z6b (gl:Nat->Option (List IV)):Yp (tabE Tryz.prog) gl 300 30 36 [.str [102,97,97]]=some (.bool true):=by kernel_rfl
theorem Wn (hP:E.P=Tryz.prog):zI E 36 [.str [102,97,97]] (.bool true):=zL (y5 hP) (z6b E.gl)
theorem z4q (gl:Nat->Option (List IV)):Yp (tabE Tryz.prog) gl 300 30 44 [.int .i64 0]=some (.str [110,47,48,48,48]):=by kernel_rfl
theorem vC (hP:E.P=Tryz.prog):zI E 44 [.int .i64 0] (.str [110,47,48,48,48]):=zL (y5 hP) (z4q E.gl)
theorem z3c (gl:Nat->Option (List IV)):Yp (tabE Tryz.prog) gl 300 30 45 [.int .i64 0]=some (.str [115,47,48,48,48]):=by kernel_rfl
theorem YA (hP:E.P=Tryz.prog):zI E 45 [.int .i64 0] (.str [115,47,48,48,48]):=zL (y5 hP) (z3c E.gl)
theorem z1N (gl:Nat->Option (List IV)):Yp (tabE Tryz.prog) gl 300 30 34 [.int .i64 0]=some (.str [101,47,48,48,48,47]):=by kernel_rfl
theorem Wp (hP:E.P=Tryz.prog):zI E 34 [.int .i64 0] (.str [101,47,48,48,48,47]):=zL (y5 hP) (z1N E.gl)
theorem JY (gl:Nat->Option (List IV)):Yp (tabE Tryz.prog) gl 300 30 116 [.int .i64 0]=some (.str [114,47,48,48,48,47]):=by kernel_rfl
theorem YC (hP:E.P=Tryz.prog):zI E 116 [.int .i64 0] (.str [114,47,48,48,48,47]):=zL (y5 hP) (JY E.gl)
theorem z0r (gl:Nat->Option (List IV)):Yp (tabE Tryz.prog) gl 300 30 213 [.int .i64 1]=some (.bool true):=by kernel_rfl
theorem wE (hP:E.P=Tryz.prog):zI E 213 [.int .i64 1] (.bool true):=zL (y5 hP) (z0r E.gl)
theorem z3U (gl:Nat->Option (List IV)):Yp (tabE Tryz.prog) gl 300 30 28 [.int .i64 0]=some (.str [109,47,48,48]):=by kernel_rfl
theorem z1C (hP:E.P=Tryz.prog):zI E 28 [.int .i64 0] (.str [109,47,48,48]):=zL (y5 hP) (z3U E.gl)
theorem z3R (gl:Nat->Option (List IV)):Yp (tabE Tryz.prog) gl 300 30 28 [.int .i64 1]=some (.str [109,47,48,49]):=by kernel_rfl
theorem z1j (hP:E.P=Tryz.prog):zI E 28 [.int .i64 1] (.str [109,47,48,49]):=zL (y5 hP) (z3R E.gl)
theorem z4K (gl:Nat->Option (List IV)):Yp (tabE Tryz.prog) gl 300 30 28 [.int .i64 2]=some (.str [109,47,48,50]):=by kernel_rfl
theorem z1E (hP:E.P=Tryz.prog):zI E 28 [.int .i64 2] (.str [109,47,48,50]):=zL (y5 hP) (z4K E.gl)
end
end Go.X.TryzW
end
section
open Go Go.X Go.Proofs
set_option maxRecDepth 100000
set_option maxHeartbeats 4000000
namespace Go.X.TryzW
def q158 : XC :=(sO [oV 4 (.str [])] (sO [oM 5 0,oM 6 1,oC 7 217 [.t 5,.t 6],oM 4 7] .ret))
def q217 : XC :=(sO [oV 4 (.str [])] (.seq (sO [oM 10 1,oK 11 .eql 10 10] (cT 11 (.seq (sO [oM 12 0,oO 13 (.bin .leq (oi 0) (.t 12)),oM 14 13,oG 15 14 true (.mov (.t 0)),oG 16 14 true (.bin .lss (.t 15) (oi 100)),oO 17 (.pick (.t 14) (.t 16) (.c (.bool false)))] (cT 17 (sO [oM 18 0,oC 19 277 [.t 18],oM 4 19] .ret) .skip)) (sO [oO 5 (.alloc [(.int .u8 0),(.int .u8 0),(.int .u8 0),(.int .u8 0),(.int .u8 0),(.int .u8 0),(.int .u8 0),(.int .u8 0),(.int .u8 0),(.int .u8 0),(.int .u8 0),(.int .u8 0),(.int .u8 0),(.int .u8 0),(.int .u8 0),(.int .u8 0),(.int .u8 0),(.int .u8 0),(.int .u8 0),(.int .u8 0),(.int .u8 0),(.int .u8 0),(.int .u8 0),(.int .u8 0)])] (sO [oM 20 0,oO 21 (.cvInt .u64 (.t 20)),oM 6 21] (.seq (sO [oM 22 0,oK 23 .lss 22 0] (cT 23 (.ops [oM 24 6,oO 25 (.un .neg (.t 24)),oM 6 25]) .skip)) (sO [oM 26 6,oC 27 278 [.t 26],oM 7 27] (.seq .bad (.seq (sO [oM 33 0,oK 34 .lss 33 0] (cT 34 (sO [oO 35 (.idxA 24 1 (.t 5) (oi 0)),oU (.store 1 (.t 35) (.c (.int .u8 45)))] (.seq .bad .ret)) .skip)) (.seq .bad .ret)))))))) .skip)) (sO [oM 45 0,oO 46 (.cvInt .u64 (.t 45)),oM 47 1,oM 48 0,oK 49 .lss 48 0,oC 50 280 [(.c .nsl),.t 46,.t 47,.t 49,(.c (.bool false))],oM 44 50,oX 51 0 44,oX 52 1 44,oM 8 51,oM 9 52] (sO [oM 53 9,oM 4 53] .ret))))
def q280 : XC :=(sO [oV 10 .nsl,oV 11 (.str [])] (.seq (sO [oM 19 2,oK 20 .lss 19 2,oM 21 20,oG 22 21 false (.mov (.t 2)),oG 23 21 false (.bin .eql (.t 22) (oi 10)),oO 24 (.pick (.t 21) (.c (.bool true)) (.t 23)),oM 25 24,oG 26 25 false (.mov (.t 2)),oG 27 25 false (.bin .gtr (.t 26) (oi 36)),oO 28 (.pick (.t 25) (.c (.bool true)) (.t 27))] (cT 28 (.ops [oO 29 (.ex (.mkif 9) [(.c (.str [115,116,114,99,111,110,118,58,32,105,108,108,101,103,97,108,32,65,112,112,101,110,100,73,110,116,47,70,111,114,109,97,116,73,110,116,32,98,97,115,101]))]),oU (.ex .panic [.t 29])]) .skip)) (sO [oO 12 (.alloc [(.int .u8 0),(.int .u8 0),(.int .u8 0),(.int .u8 0),(.int .u8 0),(.int .u8 0),(.int .u8 0),(.int .u8 0),(.int .u8 0),(.int .u8 0),(.int .u8 0),(.int .u8 0),(.int .u8 0),(.int .u8 0),(.int .u8 0),(.int .u8 0),(.int .u8 0),(.int .u8 0),(.int .u8 0),(.int .u8 0),(.int .u8 0),(.int .u8 0),(.int .u8 0),(.int .u8 0),(.int .u8 0),(.int .u8 0),(.int .u8 0),(.int .u8 0),(.int .u8 0),(.int .u8 0),(.int .u8 0),(.int .u8 0),(.int .u8 0),(.int .u8 0),(.int .u8 0),(.int .u8 0),(.int .u8 0),(.int .u8 0),(.int .u8 0),(.int .u8 0),(.int .u8 0),(.int .u8 0),(.int .u8 0),(.int .u8 0),(.int .u8 0),(.int .u8 0),(.int .u8 0),(.int .u8 0),(.int .u8 0),(.int .u8 0),(.int .u8 0),(.int .u8 0),(.int .u8 0),(.int .u8 0),(.int .u8 0),(.int .u8 0),(.int .u8 0),(.int .u8 0),(.int .u8 0),(.int .u8 0),(.int .u8 0),(.int .u8 0),(.int .u8 0),(.int .u8 0),(.int .u8 0)])] (sO [oI 13 65] (.seq (sO [oM 30 3] (cT 30 (.ops [oM 31 1,oO 32 (.un .neg (.t 31)),oM 1 32]) .skip)) (.seq (sO [oM 33 2,oC 34 319 [.t 33]] (cT 34 (sO [oM 35 2,oO 36 (.cvInt .u64 (.t 35)),oC 37 320 [.t 36],oO 38 (.cvInt .u64 (.t 37)),oM 14 38] (sO [oM 39 2,oO 40 (.cvInt .u64 (.t 39)),oM 15 40] (sO [oM 41 2,oO 42 (.cvInt .u64 (.t 41)),oO 43 (.bin .sub (.t 42) (.c (.int .u64 1))),oM 16 43] (.seq (.block 0 (.loop (.seq (sO [oM 44 1,oM 45 15,oB 46 .geq 44 45] (cT 46 .skip (.exit 0))) (.block 1 (sO [oM 47 13,oK 48 .sub 47 1,oM 13 48] (sO [oM 49 13,oM 50 1,oM 51 16,oB 52 .and 50 51,oO 53 (.idx (.c (.str [48,49,50,51,52,53,54,55,56,57,97,98,99,100,101,102,103,104,105,106,107,108,109,110,111,112,113,114,115,116,117,118,119,120,121,122])) (.t 52)),oO 54 (.idxA 65 1 (.t 12) (.t 49)),oS 54 53] (.ops [oM 55 1,oM 56 14,oB 57 .shr 55 56,oM 1 57]))))))) (sO [oM 58 13,oK 59 .sub 58 1,oM 13 59] (.ops [oM 60 13,oM 61 1,oO 62 (.idx (.c (.str [48,49,50,51,52,53,54,55,56,57,97,98,99,100,101,102,103,104,105,106,107,108,109,110,111,112,113,114,115,116,117,118,119,120,121,122])) (.t 61)),oO 63 (.idxA 65 1 (.t 12) (.t 60)),oS 63 62])))))) (sO [oM 64 2,oO 65 (.cvInt .u64 (.t 64)),oM 17 65] (.seq (.block 2 (.loop (.seq (sO [oM 66 1,oM 67 17,oB 68 .geq 66 67] (cT 68 .skip (.exit 2))) (.block 3 (sO [oM 69 13,oK 70 .sub 69 1,oM 13 70] (sO [oM 71 1,oM 72 17,oB 73 .quo 71 72,oM 18 73] (sO [oM 74 13,oM 75 1,oM 76 18,oM 77 17,oB 78 .mul 76 77,oB 79 .sub 75 78,oO 80 (.idx (.c (.str [48,49,50,51,52,53,54,55,56,57,97,98,99,100,101,102,103,104,105,106,107,108,109,110,111,112,113,114,115,116,117,118,119,120,121,122])) (.t 79)),oO 81 (.idxA 65 1 (.t 12) (.t 74)),oS 81 80] (.ops [oM 82 18,oM 1 82])))))))) (sO [oM 83 13,oK 84 .sub 83 1,oM 13 84] (.ops [oM 85 13,oM 86 1,oO 87 (.idx (.c (.str [48,49,50,51,52,53,54,55,56,57,97,98,99,100,101,102,103,104,105,106,107,108,109,110,111,112,113,114,115,116,117,118,119,120,121,122])) (.t 86)),oO 88 (.idxA 65 1 (.t 12) (.t 85)),oS 88 87])))))) (.seq (sO [oM 89 3] (cT 89 (sO [oM 90 13,oK 91 .sub 90 1,oM 13 91] (.ops [oM 92 13,oO 93 (.idxA 65 1 (.t 12) (.t 92)),oU (.store 1 (.t 93) (.c (.int .u8 45)))])) .skip)) (.seq (sO [oM 94 4] (cT 94 (sO [oM 95 0,oM 96 13,oO 97 (.ex (.sla 65) [.t 12,.t 96]),oO 98 (.ex (.appT 5 1) [.t 95,.t 97]),oM 10 98] .ret) .skip)) (sO [oM 99 13,oO 100 (.ex (.sla 65) [.t 12,.t 99]),oO 101 (.ex .bStr [.t 100]),oM 11 101] .ret)))))))))
def q320 : XC :=(sO [oI 2 0] (.seq (.cond (.c (.bool false)) (sO [oM 3 0,oO 4 (.cvInt .u32 (.t 3)),oC 5 351 [.t 4],oM 2 5] .ret) .skip) (sO [oM 6 0,oC 7 352 [.t 6],oM 2 7] .ret)))
def q352 : XC :=(sO [oI 2 0] (.seq (sO [oM 3 0,oO 4 (.bin .eql (.t 3) (.c (.int .u64 0)))] (cT 4 (sO [oI 2 64] .ret) .skip)) (sO [oM 5 0,oM 6 0,oO 7 (.un .neg (.t 6)),oB 8 .and 5 7,oO 9 (.bin .mul (.t 8) (.c (.int .u64 285870213051353865))),oO 10 (.bin .shr (.t 9) (.c (.int .u64 58))),oO 11 (.idxA 64 1 (.g 6) (.t 10)),oL 12 11,oO 13 (.cvInt .i64 (.t 12)),oM 2 13] .ret)))
section
variable {E:Env} {ρ:Rho} {L:List Blk} {K:IV->List Blk->Prop}
theorem za6 (gl:Nat->Option (List IV)):Yp (tabE Tryz.prog) gl 300 30 319 [.int .i64 16]=some (.bool true):=by kernel_rfl
theorem z6k (hP:E.P=Tryz.prog):zI E 319 [.int .i64 16] (.bool true):=zL (y5 hP) (za6 E.gl)
def dbT:List IV:=[.int .u8 0,.int .u8 1,.int .u8 56,.int .u8 2,.int .u8 57,.int .u8 49,.int .u8 28,.int .u8 3,.int .u8 61,.int .u8 58,.int .u8 42,.int .u8 50,.int .u8 38,.int .u8 29,.int .u8 17,.int .u8 4,.int .u8 62,.int .u8 47,.int .u8 59,.int .u8 36,.int .u8 45,.int .u8 43,.int .u8 51,.int .u8 22,.int .u8 53,.int .u8 39,.int .u8 33,.int .u8 30,.int .u8 24,.int .u8 18,.int .u8 12,.int .u8 5,.int .u8 63,.int .u8 55,.int .u8 48,.int .u8 27,.int .u8 60,.int .u8 41,.int .u8 37,.int .u8 16,.int .u8 46,.int .u8 35,.int .u8 44,.int .u8 21,.int .u8 52,.int .u8 32,.int .u8 23,.int .u8 11,.int .u8 54,.int .u8 26,.int .u8 40,.int .u8 15,.int .u8 34,.int .u8 20,.int .u8 31,.int .u8 10,.int .u8 25,.int .u8 14,.int .u8 19,.int .u8 9,.int .u8 13,.int .u8 8,.int .u8 7,.int .u8 6]
theorem z9e (hP:E.P=Tryz.prog) (hg:E.gl 6=some dbT):zI E 352 [.int .u64 16] (.int .i64 4):=by
 refine yu (n:=Tryz.f352.ntmps) (c:=q352) (t:=2) (by rw [hP];rfl) (by rw [hP];kernel_rfl) (by decide) (Nat.le_of_ble_eq_true rfl) ?_
 generalize hρ:entry _=ρ
 have h0:ρ 0=.int .u64 16:=by rw [<-hρ];rfl
 clear hρ
 unfold q352
 have b1:band .u64 16 (IntKind.u64.wrap (-16))=16:=by decide
 have w1:IntKind.u64.wrap (16*285870213051353865)=4573923408821661840:=by decide
 have b2:bshr .u64 4573923408821661840 58=15:=by decide
 have g1:E.noPan.gl 6=some dbT:=hg
 have dl:dbT.length=64:=rfl
 have d15:dbT.getD 15 .und=.int .u8 4:=rfl
 have w2:IntKind.i64.wrap 4=4:=by decide
 simp only [h0,b1,w1,b2,w2,za5 g1,dl,d15,go_sem,Nat.reduceEqDiff,reduceIte,Int.reduceEq,Int.reduceLT,Int.reduceLE,Int.reduceToNat,Int.reduceSub,Int.reduceNeg]
 exact ⟨by decide,rfl⟩
theorem z7r (hP:E.P=Tryz.prog) (hg:E.gl 6=some dbT):zI E 320 [.int .u64 16] (.int .i64 4):=by
 refine yu (n:=Tryz.f320.ntmps) (c:=q320) (t:=2) (by rw [hP];rfl) (by rw [hP];kernel_rfl) (by decide) (Nat.le_of_ble_eq_true rfl) ?_
 generalize hρ:entry _=ρ
 have h0:ρ 0=.int .u64 16:=by rw [<-hρ];rfl
 clear hρ
 unfold q320
 simp only [h0,go_sem,Nat.reduceEqDiff,reduceIte]
 refine zq (args':=[.int .u64 16]) rfl (z9e (E:=E.noPan) hP hg) rfl ?_
 simp only [go_sem,Nat.reduceEqDiff,reduceIte]
 rfl
def hexd (d:Nat):UInt8:=[48,49,50,51,52,53,54,55,56,57,97,98,99,100,101,102].getD d 48
def lowD (n:Nat):Nat->List UInt8
 | 0=>[]
 | k+1=>hexd (n / 16^k%16)::lowD n k
def hexF:Nat->Nat->List UInt8
 | 0,n=>[hexd (n%16)]
 | f+1,n=>if n<16 then [hexd n] else hexF f (n / 16)++[hexd (n%16)]
theorem z2i (n:Nat):∀k,(lowD n k).length=k
 | 0=>rfl
 | k+1=>by simp [lowD,z2i n k]
theorem z2P (n:Nat):∀k,lowD n (k+1)=lowD (n / 16) k++[hexd (n%16)]
 | 0=>by simp [lowD]
 | k+1=>by
  have ih:=z2P n k
  show hexd (n / 16^(k+1)%16)::lowD n (k+1)=(hexd (n / 16 / 16^k%16)::lowD (n / 16) k)++_
  rw [ih,Nat.pow_succ,Nat.mul_comm,<-Nat.div_div_eq_div_mul]
  rfl
theorem z5d:∀(k f n:Nat),k<=f->n / 16^k<16->(∀j,j<k->16<=n / 16^j)->hexF f n=hexd (n / 16^k)::lowD n k
 | 0,f,n,_,h,_=>by
  simp only [Nat.pow_zero,Nat.div_one] at h ⊢
  cases f with
  | zero=>simp [hexF,lowD,Nat.mod_eq_of_lt h]
  | succ f=>simp [hexF,lowD,h]
 | k+1,f,n,hf,h,h1=>by
  cases f with
  | zero=>omega
  | succ f=>
   have h0:=h1 0 (by omega)
   simp only [Nat.pow_zero,Nat.div_one] at h0
   have e1:n / 16^(k+1)=n / 16 / 16^k:=by rw [Nat.pow_succ,Nat.mul_comm,Nat.div_div_eq_div_mul]
   rw [hexF,if_neg (by omega),z5d k f (n / 16) (by omega) (by rw [<-e1];exact h) (fun j hj=>by
    have:=h1 (j+1) (by omega)
    rwa [Nat.pow_succ,Nat.mul_comm,<-Nat.div_div_eq_div_mul] at this),z2P,<-e1]
   rfl
def hexT (n:Nat):List UInt8:=hexF 20 n
theorem zej {u:Nat} (hu:u<18446744073709551616):band .u64 (u:Int) 15=((u%16:Nat):Int):=by
 unfold band
 have e0:IntKind.u64.bits=64:=rfl
 rw [e0]
 have e1:(BitVec.ofInt 64 (u:Int)&&&BitVec.ofInt 64 15).toNat=u%16:=by
  rw [BitVec.toNat_and,BitVec.ofInt_natCast,BitVec.toNat_ofNat,Nat.mod_eq_of_lt (by omega)]
  have e2:(BitVec.ofInt 64 15).toNat=2^4 - 1:=rfl
  rw [e2,Nat.and_two_pow_sub_one_eq_mod]
 rw [e1,wu64 (by omega) (by omega)]
theorem zhs {u:Nat}:bshr .u64 (u:Int) 4=((u / 16:Nat):Int):=by
 unfold bshr
 have e0:IntKind.u64.bits=64:=rfl
 rw [e0]
 show (u:Int).fdiv 16=_
 rw [Int.fdiv_eq_ediv_of_nonneg _ (by decide)]
 rfl
def u8s (l:List UInt8):List IV:=l.map fun b=>.int .u8 b.toNat
def rowK (n k:Nat):List IV:=List.replicate (65 - k) (.int .u8 0)++u8s (lowD n k)
theorem zaG {n k:Nat} (hk:k<=65):(rowK n k).length=65:=by simp [rowK,u8s,z2i];omega
theorem z4X {n k:Nat} (hk:k<65) {d:UInt8}:(rowK n k).take (64 - k)++[.int .u8 d.toNat]++(rowK n k).drop (64 - k+1)=List.replicate (64 - k) (.int .u8 0)++u8s (d::lowD n k):=by
 have e1:(rowK n k).take (64 - k)=List.replicate (64 - k) (.int .u8 0):=by
  unfold rowK
  rw [List.take_append_of_le_length (by simp;omega),List.take_replicate]
  congr 1;omega
 have e2:(rowK n k).drop (64 - k+1)=u8s (lowD n k):=by
  unfold rowK
  rw [show 64 - k+1=(List.replicate (65 - k) (IV.int .u8 0)).length by simp;omega,List.drop_left]
 rw [e1,e2]
 simp [u8s]
theorem hdig:∀d,d<16->([48,49,50,51,52,53,54,55,56,57,97,98,99,100,101,102,103,104,105,106,107,108,109,110,111,112,113,114,115,116,117,118,119,120,121,122]:List UInt8).getD d 0=hexd d:=by decide
theorem z7L {n k:Nat} (hk:k<65):(rowK n k).take (64 - k)++[.int .u8 (hexd (n / 16^k%16)).toNat]++(rowK n k).drop (64 - k+1)=rowK n (k+1):=by
 rw [z4X hk]
 unfold rowK
 rw [show 65 - (k+1)=64 - k by omega]
 rfl
theorem za4 (l:List UInt8):(u8s l).map (fun c=>[c])=zi l:=by simp [u8s,zi]
theorem z1X (hP:E.P=Tryz.prog) {n:Nat} (hg:E.gl 6=some dbT) (hn:n<9223372036854775808):XT E 280 [.nsl,.int .u64 n,.int .i64 16,.bool false,.bool false] L fun r L'=>r=.tup [.nsl,.str (hexT n)]/\Keep none' L L':=by
 refine xt5 (fn:=Tryz.f280) (rs:=[.tmp 10,.tmp 11]) (c:=q280) hP fun ρ h0 h1 h2 h3 h4=>?_
 unfold q280
 simp only [h2,h3,go_sem,Nat.reduceEqDiff,reduceIte,Int.reduceEq,Int.reduceLT,Nat.reduceAdd]
 obtain ⟨b,hb⟩:∃b,L.length=b:=⟨_,rfl⟩
 have hz:rowK n 0=List.replicate 65 (IV.int .u8 0):=by simp [rowK,lowD,u8s]
 have hzz:[[IV.int .u8 0,IV.int .u8 0,IV.int .u8 0,IV.int .u8 0,IV.int .u8 0,IV.int .u8 0,IV.int .u8 0,IV.int .u8 0,IV.int .u8 0,IV.int .u8 0,IV.int .u8 0,IV.int .u8 0,IV.int .u8 0,IV.int .u8 0,IV.int .u8 0,IV.int .u8 0,IV.int .u8 0,IV.int .u8 0,IV.int .u8 0,IV.int .u8 0,IV.int .u8 0,IV.int .u8 0,IV.int .u8 0,IV.int .u8 0,IV.int .u8 0,IV.int .u8 0,IV.int .u8 0,IV.int .u8 0,IV.int .u8 0,IV.int .u8 0,IV.int .u8 0,IV.int .u8 0,IV.int .u8 0,IV.int .u8 0,IV.int .u8 0,IV.int .u8 0,IV.int .u8 0,IV.int .u8 0,IV.int .u8 0,IV.int .u8 0,IV.int .u8 0,IV.int .u8 0,IV.int .u8 0,IV.int .u8 0,IV.int .u8 0,IV.int .u8 0,IV.int .u8 0,IV.int .u8 0,IV.int .u8 0,IV.int .u8 0,IV.int .u8 0,IV.int .u8 0,IV.int .u8 0,IV.int .u8 0,IV.int .u8 0,IV.int .u8 0,IV.int .u8 0,IV.int .u8 0,IV.int .u8 0,IV.int .u8 0,IV.int .u8 0,IV.int .u8 0,IV.int .u8 0,IV.int .u8 0,IV.int .u8 0]]=[rowK n 0]:=by rw [hz];rfl
 rw [hzz,hb]
 have gb:(L++[Blk.cells 65 [rowK n 0]])[b]?=some (.cells 65 [rowK n 0]):=by rw [<-hb];simp
 have kb:Keep none' L (L++[Blk.cells 65 [rowK n 0]]):=Keep.app Keep.refl
 generalize L++[Blk.cells 65 [rowK n 0]]=L1 at *
 refine zq (args':=[.int .i64 16]) rfl (z6k (E:=E.noPan) hP) rfl ?_
 have w1:IntKind.u64.wrap 16=16:=by decide
 have w2:IntKind.u64.wrap 15=15:=by decide
 have w4:IntKind.u64.wrap 4=4:=by decide
 simp only [h2,w1,go_sem,Nat.reduceEqDiff,reduceIte,Int.reduceEq,Int.reduceLT]
 refine zq (args':=[.int .u64 16]) rfl (z7r (E:=E.noPan) hP hg) rfl ?_
 simp only [h2,w1,w2,w4,go_sem,Nat.reduceEqDiff,reduceIte,Int.reduceEq,Int.reduceLT,Int.reduceSub]
 refine zT (fun m ρ M=>∃k:Nat,k<=15/\m=n / 16^k/\ρ 10=.nsl/\ρ 1=.int .u64 ((n / 16^k:Nat):Int)/\ρ 3=.bool false/\ρ 4=.bool false/\ρ 12=.ptr b 0 0/\ρ 13=.int .i64 ((65 - k:Nat):Int)/\ρ 14=.int .u64 4/\ρ 15=.int .u64 16/\ρ 16=.int .u64 15/\M[b]?=some (.cells 65 [rowK n k])/\Keep none' L M/\∀j,j<k->16<=n / 16^j)
  ⟨0,by omega,rfl,by simp only [go_sem,Nat.reduceEqDiff,reduceIte],by simp only [h1,go_sem,Nat.reduceEqDiff,reduceIte]<;>simp,by simp only [h3,go_sem,Nat.reduceEqDiff,reduceIte],by simp only [h4,go_sem,Nat.reduceEqDiff,reduceIte],by simp only [go_sem,Nat.reduceEqDiff,reduceIte],by simp only [go_sem,Nat.reduceEqDiff,reduceIte]<;>rfl,by simp only [go_sem,Nat.reduceEqDiff,reduceIte],by simp only [go_sem,Nat.reduceEqDiff,reduceIte],by simp only [go_sem,Nat.reduceEqDiff,reduceIte],gb,kb,fun j hj=>by omega⟩ ?_
 clear h0 h1 h2 h3 h4 ρ gb kb
 rintro m ρ M ⟨k,hk,rfl,h10,h1,h3,h4,h12,h13,h14,h15,h16,gb,kb,hj⟩
 have lb:=zg gb
 obtain ⟨u,hu⟩:∃u,n / 16^k=u:=⟨_,rfl⟩
 rw [hu] at h1
 have hule:u<=n:=by rw [<-hu];exact Nat.div_le_self _ _
 have w5:IntKind.i64.wrap (((65 - k:Nat):Int) - 1)=((64 - k:Nat):Int):=by rw [wrap64 (by omega) (by omega)];omega
 have f0:((0:Int)<=((64 - k:Nat):Int))=True:=eq_true (by omega)
 have f1:(((64 - k:Nat):Int)<65)=True:=eq_true (by omega)
 have hrl:=zaG (n:=n) (k:=k) (by omega)
 by_cases hc:16<=u
 ·have c1:((16:Int)<=(u:Int))=True:=eq_true (by omega)
  simp only [h10,h1,h3,h4,h12,h13,h14,h15,h16,c1,w5,f0,f1,gb,lb,zej (show u<18446744073709551616 by omega),zhs,Int.toNat_natCast,go_sem,Nat.reduceEqDiff,reduceIte,Int.reduceLE,Nat.reduceAdd]
  rw [hdig _ (Nat.mod_lt u (by decide)),Nat.mul_one,<-hu,z7L (by omega)]
  have hk15:k+1<=15:=by
   apply Nat.lt_of_not_le
   intro hk15
   have hkk:k=15:=by omega
   subst hkk
   have:n / 16^15<16:=Nat.div_lt_of_lt_mul (by omega)
   omega
  have ed:n / 16^(k+1)=n / 16^k / 16:=by rw [Nat.pow_succ,Nat.div_div_eq_div_mul]
  have e65:((64 - k:Nat):Int)=((65 - (k+1):Nat):Int):=by omega
  rw [<-ed,e65]
  refine ⟨by omega,by omega,n / 16^(k+1),by rw [ed,hu];exact Nat.div_lt_self (by omega) (by decide),k+1,hk15,rfl,rfl,rfl,rfl,Keep.set kb fun h=>by omega,fun j hj2=>?_⟩
  by_cases hjk:j<k
  ·exact hj j hjk
  ·have:j=k:=by omega
   subst this
   rw [hu];exact hc
 ·have c1:((16:Int)<=(u:Int))=False:=eq_false (by omega)
  simp only [h1,h3,h4,h12,h13,h15,c1,w5,f0,f1,gb,Int.toNat_natCast,go_sem,Nat.reduceEqDiff,reduceIte,Nat.reduceAdd]
  rw [hdig _ (by omega),Nat.mul_one,z4X (by omega)]
  refine ⟨by omega,by omega,?_⟩
  have hR:(List.replicate (64 - k) (IV.int .u8 0)++u8s (hexd u::lowD n k)).length=65:=by simp [u8s,z2i];omega
  have hRd:(List.replicate (64 - k) (IV.int .u8 0)++u8s (hexd u::lowD n k)).drop (64 - k)=u8s (hexd u::lowD n k):=by
   have:64 - k=(List.replicate (64 - k) (IV.int .u8 0)).length:=by simp
   rw [this,List.drop_left' (by simp)]
  refine zeD (l:=64 - k) (by rw [List.getElem?_set_self (zf gb)]) (fun c hc9=>?_) hR (by omega) ?_
  ·rcases List.mem_append.1 hc9 with h9 | h9
   ·exact ⟨_,_,List.eq_of_mem_replicate h9⟩
   ·obtain ⟨b9,_,rfl⟩:=List.mem_map.1 h9
    exact ⟨_,_,rfl⟩
  rw [hRd,za4]
  have hbs:∀M:List Blk,(yx M (.isl (zi (hexd u::lowD n k)))).bind (mapO byteOf)=some (hexd u::lowD n k):=fun M=>by
   show mapO byteOf (zi _)=some _
   exact Yr _
  simp only [go_sem,Nat.reduceEqDiff,reduceIte]
  rw [hbs]
  simp only [h10,go_sem,Nat.reduceEqDiff,reduceIte]
  refine ⟨?_,Keep.set (Keep.set kb fun h=>by omega) fun h=>by omega⟩
  rw [hexT,z5d k 20 n (by omega) (by omega) hj,hu]
theorem z6l (hP:E.P=Tryz.prog) {n:Nat} (hg:E.gl 6=some dbT) (hn:n<9223372036854775808):XT E 217 [.int .i64 n,.int .i64 16] L fun r L'=>r=.str (hexT n)/\Keep none' L L':=by
 refine xt2 (fn:=Tryz.f217) (rs:=[.tmp 4]) (c:=q217) hP fun ρ h0 h1=>?_
 unfold q217
 have w1:IntKind.u64.wrap (n:Int)=(n:Int):=wu64 (by omega) (by omega)
 have f1:((n:Int)<0)=False:=eq_false (by omega)
 simp only [h0,h1,w1,f1,go_sem,Nat.reduceEqDiff,reduceIte,Int.reduceEq]
 refine zh (z1X (E:=E.noPan) hP hg hn) ?_
 rintro r L' ⟨rfl,hk⟩
 simp only [go_sem,Nat.reduceEqDiff,reduceIte,Int.reduceEq,Nat.reduceAdd,Nat.reduceLT]
 exact hk
theorem z0Y (hP:E.P=Tryz.prog) {n:Nat} (hg:E.gl 6=some dbT) (hn:n<9223372036854775808):zI E 158 [.int .i64 n,.int .i64 16] (.str (hexT n)):=by
 refine Z7 (R:=fun r L'=>r=.str (hexT n)/\Keep none' [] L') ?_ ?_
 ·skip
  refine xt2 (fn:=Tryz.f158) (rs:=[.tmp 4]) (c:=q158) hP fun ρ h0 h1=>?_
  unfold q158
  simp only [h0,h1,go_sem,Nat.reduceEqDiff,reduceIte]
  refine zh (z6l (E:=E.noPan) hP hg hn) ?_
  rintro r L' ⟨rfl,hk⟩
  simp only [go_sem,Nat.reduceEqDiff,reduceIte]
  exact hk
 ·rintro r L' ⟨rfl,hk⟩
  exact ⟨hk,_,rfl,rfl⟩
end
end Go.X.TryzW
end
section
open Go Go.X Go.Proofs
set_option maxRecDepth 100000
set_option maxHeartbeats 4000000
namespace Go.X.TryzW
def q19 : XC :=(sO [oO 2 (.mov oz),oI 3 0] (sO [oM 7 0,oC 8 20 [.t 7,(oi 0)],oM 6 8,oX 9 0 6,oX 10 1 6,oM 4 9,oM 5 10] (.seq (sO [oM 11 5,oK 12 .neq 11 0] (cT 12 (sO [oM 13 5,oO 2 (.mov oz),oM 3 13] .ret) .skip)) (sO [oM 14 4,oO 15 (.build [(.raw (.pointer none)),(.int .i64 0)] [(0,(1,(.t 14)))]),oO 16 (.box (.t 15)),oM 2 16,oI 3 0] .ret))))
def q154 : XC :=(sO [oO 4 (.alloc [(.int .i64 0),(.int .i64 0)]),oI 5 0] (.seq (sO [oM 6 1,oC 7 213 [.t 6],oO 8 (.un .not (.t 7))] (cT 8 (sO [oO 9 (.build [(.int .i64 0),(.int .i64 0)] []),oU (.store 2 (.t 4) (.t 9)),oI 5 1] .ret) .skip)) (sO [oM 10 0,oM 11 1,oC 12 214 [.t 10,.t 11],oU (.store 2 (.t 4) (.t 12)),oI 5 0] .ret)))
def q155 : XC :=(sO [oO 6 (.box (.t 2)),oO 8 (.alloc [(.int .i64 0),(.int .i64 0)]),oI 9 0] (.seq (.block 0 (sO [oM 13 1,oC 14 213 [.t 13],oO 15 (.un .not (.t 14)),oM 16 15,oG 17 16 false (.mov (.t 3)),oG 18 16 false (.bin .lss (.t 17) (oi 0)),oO 19 (.pick (.t 16) (.c (.bool true)) (.t 18)),oM 20 19,oG 21 20 false (.mov (.t 3)),oG 22 20 false (.bin .gtr (.t 21) (oi 2251799813685248)),oO 23 (.pick (.t 20) (.c (.bool true)) (.t 22)),oM 12 23] (cT 12 (sO [oO 24 (.build [(.int .i64 0),(.int .i64 0)] []),oU (.store 2 (.t 8) (.t 24)),oI 9 1] .ret) (.seq (.drawE [oO 26 (.loadN 2 (.t 6)),oM 27 0,oM 28 1,oQ 29 214 [.t 27,.t 28],oO 30 (.ex (.eqA true [0,0]) [.t 26,.t 29]),oM 25 30]) (cT 25 (sO [oO 31 (.build [(.int .i64 0),(.int .i64 0)] []),oU (.store 2 (.t 8) (.t 31)),oI 9 5] .ret) (sO [oF 33 1 6,oL 34 33,oK 35 .eql 34 4503599627370496,oM 32 35] (cT 32 (sO [oO 36 (.build [(.int .i64 0),(.int .i64 0)] []),oU (.store 2 (.t 8) (.t 36)),oI 9 8] .ret) .skip))))))) (sO [oM 37 3,oF 38 1 6,oL 39 38,oK 40 .add 39 1,oO 41 (.build [(.int .i64 0),(.int .i64 0)] [(0,(1,(.t 37))),(1,(1,(.t 40)))]),oO 10 (.alloc [(.int .i64 0),(.int .i64 0)]),oU (.store 2 (.t 10) (.t 41))] (.seq (sO [oM 42 0,oM 43 1,oO 44 (.loadN 2 (.t 10)),oC 45 215 [.t 42,.t 43,.t 44],oM 11 45] (sO [oM 46 11,oK 47 .neq 46 0] (cT 47 (sO [oO 48 (.build [(.int .i64 0),(.int .i64 0)] []),oM 49 11,oU (.store 2 (.t 8) (.t 48)),oM 9 49] .ret) .skip))) (sO [oM 50 0,oN 51 50,oF 52 1 51,oL 53 52,oK 54 .add 53 1,oN 55 50,oF 56 1 55,oS 56 54] (sO [oO 57 (.loadN 2 (.t 10)),oU (.store 2 (.t 8) (.t 57)),oI 9 0] .ret))))))
def q214 : XC :=(sO [oO 4 (.alloc [(.int .i64 0),(.int .i64 0)])] (.seq (.drawE [oM 11 0,oN 12 11,oF 13 0 12,oL 14 13,oM 15 1,oQ 16 274 [.t 15],oC 17 122 [.t 14,.t 16],oM 10 17,oX 18 0 10,oX 19 1 10,oM 5 18,oM 6 19]) (.seq (sO [oM 20 6,oO 21 (.un .not (.t 20))] (cT 21 (sO [oO 22 (.build [(.int .i64 0),(.int .i64 0)] [(0,(1,(.c (.int .i64 (-1)))))]),oU (.store 2 (.t 4) (.t 22))] .ret) .skip)) (sO [oM 24 5,oO 25 (.ex (.strB 5) [.t 24]),oC 26 275 [.t 25],oM 23 26,oX 27 0 23,oX 28 1 23,oX 29 2 23,oO 7 (.alloc [(.int .i64 0),(.int .i64 0)]),oU (.store 2 (.t 7) (.t 27)),oM 8 28,oM 9 29] (sO [oO 30 (.loadN 2 (.t 7)),oU (.store 2 (.t 4) (.t 30))] .ret)))))
def q215 : XC :=(sO [oO 5 (.box (.t 2)),oI 6 0] (sO [oO 10 (.loadN 2 (.t 5)),oC 11 276 [.t 10],oM 9 11,oX 12 0 9,oX 13 1 9,oM 7 12,oM 8 13] (.seq (sO [oM 14 8,oK 15 .neq 14 0] (cT 15 (sO [oM 16 8,oM 6 16] .ret) .skip)) (.seq (.drawE [oM 17 0,oN 18 17,oF 19 0 18,oL 20 19,oM 21 1,oQ 22 274 [.t 21],oM 23 7,oO 24 (.ex .bStr [.t 23]),oO 25 (.build [(.str []),(.str []),(.bool false)] [(0,(1,(.t 22))),(1,(1,(.t 24)))]),oO 26 (.bslice 3 [(.str []),(.str []),(.bool false)] 1 [(0,(.t 25))]),oC 27 89 [.t 20,(oi 0),.t 26],oM 6 27]) .ret))))
section
variable {E:Env} {ρ:Rho} {L:List Blk} {K:IV->List Blk->Prop}
def strOf (rs:List (List IV)):List UInt8:=(mapO byteOf rs).getD []
def Plain (rs:List (List IV)):Prop:=∃s,mapO byteOf rs=some s
theorem z5V {α β:Type} {f:α->Option β}:∀{l m:List α} {x y:List β},mapO f l=some x->mapO f m=some y->mapO f (l++m)=some (x++y)
 | [],m,x,y,h,h'=>by simp only [mapO,sij] at h;subst h;simpa using h'
 | a::l,m,x,y,h,h'=>by
  simp only [mapO,List.cons_append] at h ⊢
  cases hf:f a with
  | none=>rw [hf] at h;simp at h
  | some b=>
   rw [hf] at h
   cases hl:mapO f l with
   | none=>rw [hl] at h;simp at h
   | some x'=>
    rw [hl] at h
    simp only [sij] at h
    subst h
    rw [z5V hl h']
    rfl
theorem Plain.app {rs rs':List (List IV)} (h:Plain rs) (h':Plain rs'):Plain (rs++rs'):=by
 obtain ⟨s,h⟩:=h
 obtain ⟨s',h'⟩:=h'
 exact ⟨_,z5V h h'⟩
theorem Plain.str {rs:List (List IV)} (h:Plain rs):mapO byteOf rs=some (strOf rs):=by
 obtain ⟨s,h⟩:=h
 unfold strOf
 rw [h];rfl
theorem jd:∀{rs:List (List IV)} {s:List UInt8},mapO byteOf rs=some s->rs=zi s
 | [],s,h=>by simp only [mapO,sij] at h;subst h;rfl
 | r::rs,s,h=>by
  simp only [mapO] at h
  cases hf:byteOf r with
  | none=>rw [hf] at h;simp at h
  | some b=>
   rw [hf] at h
   cases hl:mapO byteOf rs with
   | none=>rw [hl] at h;simp at h
   | some x'=>
    rw [hl] at h
    simp only [sij] at h
    subst h
    rw [Yc hf,jd hl]
    rfl
theorem Plain.rows {rs:List (List IV)} (h:Plain rs):zi (strOf rs)=rs:=(jd h.str).symm
theorem Plain.len {rs:List (List IV)} (h:Plain rs):(strOf rs).length=rs.length:=by
 have:=congrArg List.length h.rows
 rw [<-this];simp [zi]
theorem z2Z {n:Nat} (h:n<256):byteOf [IV.int .u8 (n:Int)]=some n.toUInt8:=by
 have:=z2W n.toUInt8
 have e:((n.toUInt8).toNat:Int)=n:=by
  have:n.toUInt8.toNat=n:=by simp [Nat.toUInt8];omega
  rw [this]
 rwa [e] at this
theorem Zp {n:Nat} (h:n<256^7):Plain (numR n):=by
 have hk:=Za h
 unfold numR
 refine ⟨(zl n).toUInt8::(List.range' 0 (zl n)).reverse.map fun i=>(n / 256^i%256).toUInt8,?_⟩
 have h1:∀l:List Nat,mapO byteOf (l.map fun i=>[IV.int .u8 (n / 256^i%256:Nat)])=some (l.map fun i=>(n / 256^i%256).toUInt8):=by
  intro l
  induction l with
  | nil=>rfl
  | cons a l ih=>simp only [List.map_cons,mapO];rw [z2Z (Nat.mod_lt _ (by decide)),ih]
 simp only [mapO]
 rw [z2Z (by omega),h1]
theorem jL {o:Int} {n:Nat} (h1 : -2251799813685248<=o) (h2:o<=2251799813685248) (hn:n<=4503599627370496):Plain (Zo o n):=
 (Zp (by unfold sgnN;split<;>omega)).app (Zp (by omega))
theorem z1g {o:Int} {n:Nat} (h1 : -2251799813685248<=o) (h2:o<=2251799813685248) (hn:n<=4503599627370496):(Zo o n).length<=20:=by
 have hl:=zF n
 have hl2:=zF (sgnN o)
 have a1:=Za (n:=sgnN o) (k:=7) (by unfold sgnN;split<;>omega)
 have a2:=Za (n:=n) (k:=7) (by omega)
 simp only [Zo,lla]
 omega
theorem Zf (s:List UInt8):(zi s).length=s.length:=by simp [zi]
theorem We {M:List Blk} {s:List UInt8} {g:Nat} (hg:M.length=g):mapO (conv (M++[Blk.tcells 5 1 (zi s)]) fuel zy) [IV.sl g 0 s.length s.length]=some [.isl (zi s)]:=by
 subst hg
 have e1:(M++[Blk.tcells 5 1 (zi s)])[M.length]?=some (.tcells 5 1 (zi s)):=by simp
 have e2:conv (M++[Blk.tcells 5 1 (zi s)]) fuel zy (IV.sl M.length 0 s.length s.length)=some (.isl (zi s)):=by
  have ht:(zi s).take s.length=zi s:=List.take_of_length_le (by rw [Zf];exact Nat.le_refl _)
  simp [fuel,conv,zy,ht,Y8 (Zh s),Zf]
 simp only [mapO,e2]
theorem Js {l:List OpV} {m:Nat} (hl:l.length<=100000) (h:∀o∈l,o.ok/\o.key.length+o.val.length<=m):(opsR l).length<=l.length*(m+17)+8:=by
 have h1:=z1z (f:=OpV.bytes) (m:=m+17) l fun o ho=>by
  have:=OpV.bytes_len (h o ho).1
  have:=(h o ho).2
  omega
 have h2:=zF l.length
 have h3:=Za (n:=l.length) (k:=7) (by omega)
 unfold opsR
 rw [lla]
 omega
def vg (d:KV) (o:Int) (n:Nat):Prop:=(d.get [108,101,97,115,101,47,49]=none/\o = -1/\n=0)\/(d.get [108,101,97,115,101,47,49]=some (strOf (Zo o n)) /\ -2251799813685248<=o/\o<=2251799813685248/\n<=4503599627370496)
def ZC (L:List Blk) (t:Nat) (F:Nat->Prop) (N:Nat) (d:KV):Prop:=∃s FS,∃sw:Int,L[t]?=some (.cells 2 [[.ptr s 0 0,.int .i64 sw]])/\zt L s FS N 0 d/\¬FS t/\F=fun u=>u=t\/FS u
theorem ZC.lt {t N:Nat} {F:Nat->Prop} {d:KV} (h:ZC L t F N d):t<L.length/\F t/\∀u,F u->u<L.length:=by
 obtain ⟨s,FS,sw,h1,h2,h3,rfl⟩:=h
 refine ⟨zf h1,.inl rfl,?_⟩
 rintro u (rfl | h)
 ·exact zf h1
 ·exact h2.lt.2.2 u h
theorem ZC.keep {t N:Nat} {F G:Nat->Prop} {d:KV} {L':List Blk} (h:ZC L t F N d) (hk:Keep G L L') (hn:∀u,F u->¬G u):ZC L' t F N d:=by
 obtain ⟨s,FS,sw,h1,h2,h3,rfl⟩:=h
 exact ⟨s,FS,sw,hk.get h1 (hn _ (.inl rfl)),h2.keep hk fun u hu=>hn _ (.inr hu),h3,rfl⟩
theorem z7V (hP:E.P=Tryz.prog) {t N n:Nat} {F:Nat->Prop} {d:KV} {o:Int} (h:ZC L t F N d) (hl:vg d o n):XT E 214 [.ptr t 0 0,.int .i64 1] L fun r L'=>r=.agg [.int .i64 o,.int .i64 n]/\Keep none' L L':=by
 obtain ⟨s,FS,sw,ht,hS,hne,rfl⟩:=h
 have lt1:=zg ht
 refine xt2 (fn:=Tryz.f214) (rs:=[.cellN 4 2]) (c:=q214) hP fun ρ h0 h1=>?_
 unfold q214
 simp (maxDischargeDepth:=12) only [h0,h1,ht,lt1,go_sem,Nat.reduceEqDiff,reduceIte,Nat.reduceAdd]
 refine Zt (E:=E.noPan) (args':=[.int .i64 1]) rfl (z2X (E:=E.noPan) hP) (fun _=>rfl) ?_
 simp (maxDischargeDepth:=12) only [go_sem,Nat.reduceEqDiff,reduceIte]
 refine zh (z8c (E:=E.noPan) hP (hS.keep (Keep.app (k:=Blk.cells 2 [[IV.int .i64 0,IV.int .i64 0]]) Keep.refl:Keep none' L _) fun _ _ h=>h) _) ?_
 rintro r L1 ⟨rfl,rfl⟩
 rcases hl with ⟨hg,rfl,rfl⟩ | ⟨hg,b1,b2,b3⟩
 ·unfold getR
  rw [hg]
  have e0:(none:Option (List UInt8)).isSome=false:=rfl
  simp (maxDischargeDepth:=12) only [e0,Y4,Zw,ZO,go_sem,Nat.reduceEqDiff,reduceIte,Nat.reduceAdd,Nat.reduceLT,Nat.reduceLeDiff,Int.reduceNeg]
  refine ⟨rfl,?_⟩
  (repeat' first | exact Keep.refl | apply Keep.app | apply Keep.set)<;>(intro hh;first | rfl | (exfalso;first | omega | (simp only [lla,lls,llc,lln] at hh;omega)))
 ·unfold getR
  rw [hg]
  have e0:(some (strOf (Zo o n))).isSome=true:=rfl
  have e1:(some (strOf (Zo o n))).getD []=strOf (Zo o n):=rfl
  have hp:=jL b1 b2 b3
  have hll:=z1g b1 b2 b3
  have f1:((strOf (Zo o n)).length<=9223372036854775807)=True:=eq_true (by rw [hp.len];omega)
  simp (maxDischargeDepth:=12) only [e0,e1,f1,go_sem,Nat.reduceEqDiff,reduceIte,Nat.reduceAdd,Nat.reduceLT]
  refine Y9 (args':=[.isl (Zo o n)]) ?_ (z0q (E:=E.noPan) hP b1 b2 b3) rfl rfl ?_
  ·rw [We rfl,hp.rows]
  simp (maxDischargeDepth:=12) only [Y4,Zw,ZO,go_sem,Nat.reduceEqDiff,reduceIte,Nat.reduceAdd,Nat.reduceLT]
  refine ⟨rfl,?_⟩
  (repeat' first | exact Keep.refl | apply Keep.app | apply Keep.set)<;>(intro hh;first | rfl | (exfalso;first | omega | (simp only [lla,lls,llc,lln] at hh;omega)))
theorem z4W (hP:E.P=Tryz.prog) {t N n:Nat} {F:Nat->Prop} {d:KV} {o:Int} (h:ZC L t F N d) (hl:vg d o n):XT E 214 [.ptr t 0 0,.int .i64 1] L fun r L'=>r=.agg [.int .i64 o,.int .i64 n]/\L'=L:=by
 refine Z7 (z7V hP h hl) ?_
 rintro r L' ⟨rfl,hk⟩
 exact ⟨hk,_,rfl,rfl⟩
theorem zbV (hP:E.P=Tryz.prog) {t N n:Nat} {F:Nat->Prop} {d:KV} {o:Int} (h:ZC L t F N d) (b1 : -2251799813685248<=o) (b2:o<=2251799813685248) (b3:n<=4503599627370496) (hN:d.length<=800000) (hN2:N+1000<=1099511627776) :
  XT E 215 [.ptr t 0 0,.int .i64 1,.agg [.int .i64 o,.int .i64 n]] L fun r L'=>r=.int .i64 0/\(∃F' N',N'<=N+1000/\ZC L' t F' N' (d.put [108,101,97,115,101,47,49] (strOf (Zo o n)))/\Grown F F' L L')/\Keep F L L':=by
 obtain ⟨s,FS,sw,ht,hS,hne,rfl⟩:=h
 have lt1:=zg ht
 have hp:=jL b1 b2 b3
 have hll:=z1g b1 b2 b3
 refine xt3 (fn:=Tryz.f215) (rs:=[.tmp 6]) (c:=q215) hP fun ρ h0 h1 h2=>?_
 unfold q215
 simp only [h2,go_sem,Nat.reduceEqDiff,reduceIte,Nat.reduceAdd]
 refine zq (args':=[.agg [.int .i64 o,.int .i64 n]]) rfl (z6M (E:=E.noPan) hP b1 b2 b3) rfl ?_
 simp only [h0,h1,ht,lt1,go_sem,Nat.reduceEqDiff,reduceIte,Nat.reduceAdd,Nat.reduceLT]
 refine Zt (E:=E.noPan) (args':=[.int .i64 1]) rfl (z2X (E:=E.noPan) hP) (fun _=>rfl) ?_
 have hb:∀M:List Blk,(yx M (.isl (Zo o n))).bind (mapO byteOf)=some (strOf (Zo o n)):=fun M=>hp.str
 simp only [hb,go_sem,Nat.reduceEqDiff,reduceIte,Nat.reduceAdd,Nat.reduceLeDiff]
 obtain ⟨L1,hL1⟩:∃L1,L++[Blk.cells 2 [[IV.int IntKind.i64 o,IV.int IntKind.i64 n]]]=L1:=⟨_,rfl⟩
 have kL1:Keep none' L L1:=by rw [<-hL1];exact Keep.app Keep.refl
 rw [hL1]
 let ov:OpV:=⟨[108,101,97,115,101,47,49],strOf (Zo o n),false⟩
 have hfit:∀q∈[ov],q.fit:=fun q hq=>by
  simp only [List.mem_singleton] at hq
  subst hq
  exact ⟨(show ([108,101,97,115,101,47,49]:List UInt8)≠[] by decide),(show ([108,101,97,115,101,47,49]:List UInt8).length<=200 by decide),by show (strOf (Zo o n)).length<=_;rw [hp.len];omega,fun h=>by cases h⟩
 have hlen:=Js (l:=[ov]) (m:=27) (Nat.le_of_ble_eq_true rfl) fun q hq=>by
  simp only [List.mem_singleton] at hq
  subst hq
  refine ⟨(hfit ov (by simp)).ok,?_⟩
  show 7+(strOf (Zo o n)).length<=27
  rw [hp.len];omega
 have hlen:(opsR [ov]).length<=52:=hlen
 have hS1:zt (L1++[Blk.cells 3 [ov.row]]) s FS N 0 d:=hS.keep (Keep.app kL1:Keep none' L _) fun _ _ h=>h
 refine zh (z3i (E:=E.noPan) (l:=[ov]) hP hS1 (ob:=L1.length) (by simp only [go_sem]<;>rfl) (fun h=>?_) (by simp) (Nat.le_of_ble_eq_true rfl) hfit (fun q hq=>by simp only [List.mem_singleton] at hq;subst hq;rfl) (by omega) (by simp;omega) (by omega)) ?_
 ·have:=hS.lt.2.2 _ h;have:=kL1.1;omega
 rintro r L2 ⟨rfl,⟨F',hS2,hG2⟩,hk2⟩
 simp only [go_sem,Nat.reduceEqDiff,reduceIte]
 have kL2:Keep FS L L2:=(kL1.mono (F':=FS) fun t _ h=>h.elim).trans ((Keep.app Keep.refl:Keep none' L1 (L1++[Blk.cells 3 [ov.row]])).mono (F':=FS) (fun t _ h=>h.elim) |>.trans hk2 fun t _ h=>h) fun t _ h=>h
 have hg:Grown FS F' L L2:=fun t ht2=>by
  rcases hG2 t ht2 with h | h
  ·exact .inl h
  ·right;have:=kL1.1;simp only [lla,llc,lln] at h;omega
 refine ⟨⟨_,_,?_,⟨s,F',sw,kL2.get ht hne,hS2,fun h=>?_,rfl⟩,?_⟩,kL2.mono fun t _ h=>.inr h⟩
 ·omega
 ·rcases hg t h with h | h
  ·exact hne h
  ·have:=zf ht;omega
 ·rintro u (rfl | h)
  ·exact .inl (.inl rfl)
  ·rcases hg u h with h | h
   ·exact .inl (.inr h)
   ·exact .inr h
end
end Go.X.TryzW
end
section
open Go Go.X Go.Proofs
set_option maxRecDepth 100000
set_option maxHeartbeats 4000000
namespace Go.X.TryzW
section
variable {E:Env} {ρ:Rho} {L:List Blk} {K:IV->List Blk->Prop}
theorem yG {L L':List Blk} (h:∀i,i<L.length->L'[i]?=L[i]?):Keep none' L L':=by
 refine ⟨?_,fun t ht _=>h t ht⟩
 rcases Nat.eq_zero_or_pos L.length with h0 | h0
 ·omega
 ·have:=h (L.length - 1) (by omega)
  rw [List.getElem?_eq_getElem (l:=L) (by omega)] at this
  have:=zf this
  omega
theorem zbP (hP:E.P=Tryz.prog) {t N n:Nat} {F:Nat->Prop} {d:KV} {o:Int} (h:ZC L t F N d) (hl:vg d o n):XT E 154 [.ptr t 0 0,.int .i64 1] L fun r L'=>r=.tup [.agg [.int .i64 o,.int .i64 n],.int .i64 0]/\L'=L:=by
 refine Z7 (R:=fun r L'=>r=.tup [.agg [.int .i64 o,.int .i64 n],.int .i64 0]/\Keep none' L L') ?_ ?_
 ·skip
  refine xt2 (fn:=Tryz.f154) (rs:=[.cellN 4 2,.tmp 5]) (c:=q154) hP fun ρ h0 h1=>?_
  unfold q154
  simp only [h1,go_sem,Nat.reduceEqDiff,reduceIte,Nat.reduceAdd]
  refine zq (args':=[.int .i64 1]) rfl (wE (E:=E.noPan) hP) rfl ?_
  simp only [h0,h1,go_sem,Nat.reduceEqDiff,reduceIte]
  refine zh (z4W (E:=E.noPan) hP (h.keep (Keep.app (k:=Blk.cells 2 [[IV.int .i64 0,IV.int .i64 0]]) Keep.refl:Keep none' L _) fun _ _ h=>h) hl) ?_
  rintro r L1 ⟨rfl,rfl⟩
  simp only [Y4,Zw,ZO,jE,go_sem,Nat.reduceEqDiff,reduceIte,Nat.reduceAdd]
  refine ⟨rfl,?_⟩
  (repeat' first | exact Keep.refl | apply Keep.app | apply Keep.set)<;>(intro hh;first | rfl | (exfalso;first | omega | (simp only [lla,lls,llc,lln] at hh;omega)))
 ·rintro r L' ⟨rfl,hk⟩
  exact ⟨hk,_,rfl,rfl⟩
theorem zbv (hP:E.P=Tryz.prog) {t N n:Nat} {F:Nat->Prop} {d:KV} {o:Int} (h:ZC L t F N d) (hl:vg d o n) (hn:n<4503599627370496) (hN:d.length<=800000) (hN2:N+1000<=1099511627776) :
  XT E 155 [.ptr t 0 0,.int .i64 1,.agg [.int .i64 o,.int .i64 n],.int .i64 4] L fun r L'=>r=.tup [.agg [.int .i64 4,.int .i64 ((n+1:Nat):Int)],.int .i64 0]/\(∃F' N',N'<=N+1000/\ZC L' t F' N' (d.put [108,101,97,115,101,47,49] (strOf (Zo 4 (n+1))))/\Grown F F' L L')/\Keep F L L':=by
 refine xt4 (fn:=Tryz.f155) (rs:=[.cellN 8 2,.tmp 9]) (c:=q155) hP fun ρ h0 h1 h2 h3=>?_
 unfold q155
 simp only [h1,h2,go_sem,Nat.reduceEqDiff,reduceIte,Nat.reduceAdd]
 refine zq (args':=[.int .i64 1]) rfl (wE (E:=E.noPan) hP) rfl ?_
 simp only [h0,h1,h3,go_sem,Nat.reduceEqDiff,reduceIte,Int.reduceLT,Nat.reduceAdd]
 obtain ⟨L1,hL1⟩:∃L1,L++[Blk.cells 2 [[IV.int .i64 o,IV.int .i64 n]]]++[Blk.cells 2 [[IV.int .i64 0,IV.int .i64 0]]]=L1:=⟨_,rfl⟩
 obtain ⟨p6,hp6⟩:∃p6,L.length=p6:=⟨_,rfl⟩
 obtain ⟨p8,hp8⟩:∃p8,(L++[Blk.cells 2 [[IV.int .i64 o,IV.int .i64 n]]]).length=p8:=⟨_,rfl⟩
 have n68:p8=p6+1:=by rw [<-hp8,<-hp6];simp
 have kL1:Keep none' L L1:=by rw [<-hL1];(repeat' first | exact Keep.refl | apply Keep.app | apply Keep.set)<;>(intro hh;first | rfl | (exfalso;first | omega | (simp only [lla,lls,llc,lln] at hh;omega)))
 have e6:L1[p6]?=some (.cells 2 [[.int .i64 o,.int .i64 n]]):=by rw [<-hL1,<-hp6];simp []
 have e8:L1[p8]?=some (.cells 2 [[.int .i64 0,.int .i64 0]]):=by rw [<-hL1,<-hp8];simp []
 have l6:=zg e6
 have l8:=zg e8
 have hT1:ZC L1 t F N d:=h.keep kL1 fun _ _ h=>h
 rw [hL1,hp6,hp8]
 refine yH (E:=E.noPan) (.agg [.int .i64 o,.int .i64 n]) rfl (fun L' ha=>z4W (by exact hP) (hT1.keep (yG ha) fun _ _ h=>h) hl) ?_
 have f1:((n:Int)=4503599627370496)=False:=eq_false (by omega)
 have w1:IntKind.i64.wrap ((n:Int)+1)=((n+1:Nat):Int):=by rw [wrap64 (by omega) (by omega)];rfl
 have he:ZW [0,0] [IV.int .i64 o,IV.int .i64 n] [IV.int .i64 o,IV.int .i64 n]=some true:=by simp [ZW]
 simp only [h0,h1,h3,e6,f1,w1,he,go_sem,Nat.reduceEqDiff,reduceIte,Int.reduceLT,Nat.reduceAdd,Nat.reduceLT,Nat.reduceLeDiff]
 refine zh (zbV (E:=E.noPan) (o:=4) (n:=n+1) hP (hT1.keep (Keep.app Keep.refl:Keep none' L1 _) fun _ _ h=>h) (by omega) (by omega) (by omega) hN hN2) ?_
 rintro r L2 ⟨rfl,⟨F',N',hN',hT2,hG2⟩,hk2⟩
 obtain ⟨s,FS,sw,ht,hS,hne,rfl⟩:=hT2
 have g8:=hk2.get (Zl e8) fun hh=>by have:=h.lt.2.2 _ hh;omega
 have lt2:=zg ht
 have m8:=zg g8
 have e10:L2[L1.length]?=some (.cells 2 [[.int .i64 4,.int .i64 ((n+1:Nat):Int)]]):=hk2.get (by simp) fun hh=>by have:=h.lt.2.2 _ hh;have:=kL1.1;omega
 have l10:=zg e10
 have htp:(t=p8)=False:=eq_false (by have:=h.lt.1;omega)
 have hpt:(p8=t)=False:=eq_false (by have:=h.lt.1;omega)
 have ht10:(t=L1.length)=False:=eq_false (by have:=h.lt.1;have:=kL1.1;omega)
 simp only [h0,ht,g8,m8,e10,htp,ht10,Y4,Zw,jE,ZO,go_sem,Nat.reduceEqDiff,reduceIte,Int.reduceLT,Nat.reduceAdd,Nat.reduceLT]
 have hFt:=h.lt
 have hGL:Grown F (fun u=>u=t\/FS u) L L2:=fun u hu=>by
  rcases hG2 u hu with h5 | h5
  ·exact .inl h5
  ·right;have:=kL1.1;simp only [lla,llc,lln] at h5;omega
 have hp8:¬FS p8:=fun h5=>by
  rcases hG2 p8 (.inr h5) with h6 | h6
  ·have:=hFt.2.2 _ h6;omega
  ·have:=zf e8;simp only [lla,llc,lln] at h6;omega
 have kL2:Keep F L L2:=((kL1.mono (F':=F) fun u _ h=>h.elim).trans ((Keep.app Keep.refl:Keep none' L1 (L1++[Blk.cells 2 [[IV.int .i64 4,IV.int .i64 ((n+1:Nat):Int)]]])).mono (F':=F) fun u _ h=>h.elim) fun u _ h=>h).trans hk2 fun u _ h=>h
 have kM:Keep (fun u=>u=t\/u=p8) L2 ((L2.set t (Blk.cells 2 [[IV.ptr s 0 0,IV.int IntKind.i64 (IntKind.i64.wrap (sw+1))]])).set p8 (Blk.cells 2 [[IV.int IntKind.i64 4,IV.int IntKind.i64 ((n+1:Nat):Int)]])):=Keep.set (Keep.set Keep.refl fun _=>.inl rfl) fun _=>.inr rfl
 refine ⟨rfl,⟨fun u=>u=t\/FS u,N',hN',⟨s,FS,IntKind.i64.wrap (sw+1),?_,hS.keep kM ?_,hne,rfl⟩,?_⟩,kL2.trans kM ?_⟩
 ·rw [List.getElem?_set_ne (by omega),List.getElem?_set_self (zf ht)]
 ·rintro u hu (rfl | rfl)
  ·exact hne hu
  ·exact hp8 hu
 ·intro u hu
  have:=hGL u hu
  simp only [lls]
  exact this
 ·rintro u hu (rfl | rfl)
  ·exact hFt.2.1
  ·omega
theorem z9O (hP:E.P=Tryz.prog) {dk m:Nat} {o stp:Int} (hD:L[dk]?=some (dskB m o stp)) (hm:L[m]?=some (.map [] 0)):XT E 19 [.ptr dk 0 0] L fun r L'=>
  ∃t,r=.tup [.ptr t 0 0,.int .i64 0]/\(∃F',ZC L' t F' 0 []/\Grown (fun u=>u=dk\/u=m) F' L L')/\Keep none' L L':=by
 refine xt1 (fn:=Tryz.f19) (rs:=[.tmp 2,.tmp 3]) (c:=q19) hP fun ρ h0=>?_
 unfold q19
 simp only [h0,go_sem,Nat.reduceEqDiff,reduceIte]
 refine zh (z7J (E:=E.noPan) hP hD hm) ?_
 rintro r L1 ⟨s,rfl,⟨F',hS,hG⟩,hs,hk⟩
 simp only [go_sem,Nat.reduceEqDiff,reduceIte,Nat.reduceAdd,Nat.reduceLT,Nat.reduceLeDiff]
 have k1:Keep none' L1 (L1++[Blk.cells 2 [[IV.ptr s 0 0,IV.int .i64 0]]]):=Keep.app Keep.refl
 refine ⟨L1.length,rfl,⟨_,⟨s,F',0,by simp,hS.keep k1 fun _ _ h=>h,fun h=>by have:=hS.lt.2.2 _ h;omega,rfl⟩,?_⟩,hk.trans k1 fun _ _ h=>h⟩
 rintro u (rfl | h)
 ·exact .inr ⟨hk.1,by simp⟩
 ·rcases hG u h with h | h
  ·exact .inl h
  ·right;simp only [lla,llc,lln];omega
end
end Go.X.TryzW
end
section
open Go Go.X Go.Proofs
set_option maxRecDepth 100000
set_option maxHeartbeats 4000000
namespace Go.X.TryzW
def q80 : XC :=(sO [oO 8 (.mov oz),oI 9 0] (.seq (sO [oM 13 0,oO 14 (.ex (.eqP false) [.t 13,oz]),oM 15 14,oG 16 15 false (.mov (.t 1)),oG 17 15 false (.ex (.eqP false) [.t 16,oz]),oO 18 (.pick (.t 15) (.c (.bool true)) (.t 17))] (cT 18 (sO [oO 8 (.mov oz),oI 9 1] .ret) .skip)) (sO [oM 20 0,oM 21 2,oC 22 154 [.t 20,.t 21],oM 19 22,oX 23 0 19,oX 24 1 19,oO 10 (.alloc [(.int .i64 0),(.int .i64 0)]),oU (.store 2 (.t 10) (.t 23)),oM 11 24] (.seq (sO [oM 25 11,oK 26 .neq 25 0] (cT 26 (sO [oM 27 11,oO 8 (.mov oz),oM 9 27] .ret) .skip)) (sO [oM 29 0,oM 30 2,oO 31 (.loadN 2 (.t 10)),oM 32 3,oC 33 155 [.t 29,.t 30,.t 31,.t 32],oM 28 33,oX 34 0 28,oX 35 1 28,oO 12 (.alloc [(.int .i64 0),(.int .i64 0)]),oU (.store 2 (.t 12) (.t 34)),oM 11 35] (.seq (sO [oM 36 11,oK 37 .eql 36 0] (cT 37 (.ops [oM 38 1,oF 39 1 12,oL 40 39,oC 41 156 [.t 38,.t 40],oM 11 41]) .skip)) (.seq (sO [oM 42 11,oK 43 .neq 42 0] (cT 43 (sO [oM 44 11,oO 8 (.mov oz),oM 9 44] .ret) .skip)) (sO [oM 45 0,oM 46 1,oM 47 2,oO 48 (.loadN 2 (.t 12)),oF 49 1 12,oL 50 49,oO 51 (.ex (.itof .f64) [.t 50]),oO 52 (.ex .cpx [.t 51,(.c (.raw (.float .f64 0)))]),oO 53 (.build [(.raw (.pointer none)),(.raw (.pointer none)),(.int .i64 0),(.int .i64 0),(.int .i64 0),(.raw (.complex .f64 0 0)),(.bool false)] [(0,(1,(.t 45))),(1,(1,(.t 46))),(2,(1,(.t 47))),(3,(2,(.t 48))),(5,(1,(.t 52))),(6,(1,(.c (.bool true))))]),oO 54 (.box (.t 53)),oM 8 54,oI 9 0] .ret))))))))
def q81 : XC :=(sO [oI 2 0] (sO [oM 3 0,oN 4 3,oF 5 3 4,oF 6 1 5,oL 7 6,oM 2 7] .ret))
def q82 : XC :=(sO [oI 2 0] (sO [oM 3 0,oN 4 3,oF 5 2 4,oL 6 5,oM 2 6] .ret))
def q83 : XC :=(sO [oV 2 (.bool false)] (sO [oM 3 0,oN 4 3,oF 5 6 4,oL 6 5,oM 2 6] .ret))
def q30 : XC :=(sO [oI 4 0] (.seq (sO [oM 6 0,oN 7 6,oF 8 6 7,oL 9 8,oO 10 (.un .not (.t 9))] (cT 10 (sO [oI 4 13] .ret) .skip)) (.seq (.drawE [oM 11 0,oN 12 11,oF 13 1 12,oL 14 13,oM 15 0,oN 16 15,oF 17 3 16,oF 18 1 17,oL 19 18,oM 20 1,oC 21 89 [.t 14,.t 19,.t 20],oM 5 21]) (sO [oM 22 0,oM 23 5,oK 24 .neq 23 5,oN 25 22,oF 26 6 25,oS 26 24] (sO [oM 27 5,oM 4 27] .ret)))))
def q112 : XC :=(sO [oO 2 (.mov (.c (.raw (.complex .f64 0 0)))),oI 3 0] (.seq (.block 0 (sO [oM 5 0,oN 6 5,oF 7 6 6,oL 8 7,oO 9 (.un .not (.t 8)),oM 4 9] (cT 4 (sO [oO 2 (.mov (.c (.raw (.complex .f64 0 0)))),oI 3 13] .ret) (sO [oM 11 0,oC 12 57 [.t 11],oK 13 .geq 12 4503599627370496,oM 10 13] (cT 10 (sO [oO 2 (.mov (.c (.raw (.complex .f64 0 0)))),oI 3 8] .ret) .skip))))) (sO [oM 14 0,oN 15 14,oF 16 5 15,oL 17 16,oO 18 (.bin .add (.t 17) (.c (.raw (.complex .f64 0 4607182418800017408)))),oN 19 14,oF 20 5 19,oS 20 18] (sO [oM 21 0,oN 22 21,oF 23 5 22,oL 24 23,oM 2 24,oI 3 0] .ret))))
def q57 : XC :=(sO [oI 2 0] (sO [oM 3 0,oN 4 3,oF 5 5 4,oL 6 5,oO 7 (.ex (.ru .im) [.t 6]),oO 8 (.ex (.ru (.toInt .i64)) [.t 7]),oM 2 8] .ret))
section
variable {E:Env} {ρ:Rho} {L:List Blk} {K:IV->List Blk->Prop}
def ctxB (t s n re im:Nat) (b:Bool):Blk:=.cells 7 [[.ptr t 0 0,.ptr s 0 0,.int .i64 1,.int .i64 4,.int .i64 n,.raw (.complex .f64 re im),.bool b]]
theorem z9M (hP:E.P=Tryz.prog) {c t s n re im:Nat} {b:Bool} (hc:L[c]?=some (ctxB t s n re im b)):XT E 81 [.ptr c 0 0] L fun r L'=>r=.int .i64 n/\L'=L:=by
 have lc:=zg hc
 unfold ctxB at hc
 refine xt1 (fn:=Tryz.f81) (rs:=[.tmp 2]) (c:=q81) hP fun ρ h0=>?_
 unfold q81
 simp only [h0,hc,go_sem,Nat.reduceEqDiff,reduceIte,Nat.reduceAdd,Nat.reduceLT]
theorem z9X (hP:E.P=Tryz.prog) {c t s n re im:Nat} {b:Bool} (hc:L[c]?=some (ctxB t s n re im b)):XT E 82 [.ptr c 0 0] L fun r L'=>r=.int .i64 1/\L'=L:=by
 have lc:=zg hc
 unfold ctxB at hc
 refine xt1 (fn:=Tryz.f82) (rs:=[.tmp 2]) (c:=q82) hP fun ρ h0=>?_
 unfold q82
 simp only [h0,hc,go_sem,Nat.reduceEqDiff,reduceIte,Nat.reduceAdd,Nat.reduceLT]
theorem z9v (hP:E.P=Tryz.prog) {c t s n re im:Nat} {b:Bool} (hc:L[c]?=some (ctxB t s n re im b)):XT E 83 [.ptr c 0 0] L fun r L'=>r=.bool b/\L'=L:=by
 have lc:=zg hc
 unfold ctxB at hc
 refine xt1 (fn:=Tryz.f83) (rs:=[.tmp 2]) (c:=q83) hP fun ρ h0=>?_
 unfold q83
 simp only [h0,hc,go_sem,Nat.reduceEqDiff,reduceIte,Nat.reduceAdd,Nat.reduceLT]
theorem z6J (hP:E.P=Tryz.prog) {t s NT NS n:Nat} {FT FS:Nat->Prop} {dT d:KV} {o:Int} (hT:ZC L t FT NT dT) (hl:vg dT o n) (hS:zt L s FS NS n d) (hdis:∀u,FT u->¬FS u)
  (hn:n<4503599627370496) (hN:dT.length<=800000) (hN2:NT+1000<=1099511627776) (hN3:NS+300<=1099511627776) :
  XT E 80 [.ptr t 0 0,.ptr s 0 0,.int .i64 1,.int .i64 4] L fun r L'=>∃c,r=.tup [.ptr c 0 0,.int .i64 0]/\L.length<=c/\L'[c]?=some (ctxB t s (n+1) (floatOfInt .f64 ((n+1:Nat):Int)) 0 true)/\
   (∃FT' FS' NT',NT'<=NT+1000/\ZC L' t FT' NT' (dT.put [108,101,97,115,101,47,49] (strOf (Zo 4 (n+1))))/\zt L' s FS' (NS+300) ((n+1:Nat):Int) d/\(∀u,FT' u->¬FS' u)/\¬FT' c/\¬FS' c/\Grown FT FT' L L'/\Grown FS FS' L L')/\Keep (fun u=>FT u\/FS u) L L':=by
 refine xt4 (fn:=Tryz.f80) (rs:=[.tmp 8,.tmp 9]) (c:=q80) hP fun ρ h0 h1 h2 h3=>?_
 unfold q80
 have ep:∀u:Nat,WG (.ptr u 0 0) (.raw (.pointer none))=some false:=fun _=>rfl
 simp only [h0,h1,h2,ep,go_sem,Nat.reduceEqDiff,reduceIte]
 refine zh (zbP (E:=E.noPan) hP hT hl) ?_
 rintro r L' ⟨rfl,rfl⟩
 have es:(L'++[Blk.cells 2 [[IV.int .i64 0,IV.int .i64 0]]]).set L'.length (Blk.cells 2 [[IV.int .i64 o,IV.int .i64 n]])=L'++[Blk.cells 2 [[IV.int .i64 o,IV.int .i64 n]]]:=by
  rw [List.set_append_right _ _ (Nat.le_refl _),Nat.sub_self];rfl
 simp only [h0,h2,h3,es,go_sem,Nat.reduceEqDiff,reduceIte,Nat.reduceAdd,Nat.reduceLT]
 have k1:Keep none' L' (L'++[Blk.cells 2 [[IV.int .i64 o,IV.int .i64 n]]]):=Keep.app Keep.refl
 refine zh (zbv (E:=E.noPan) hP (hT.keep k1 fun _ _ h=>h) hl hn hN hN2) ?_
 rintro r L2 ⟨rfl,⟨FT',NT',hNT,hT2,hG2⟩,hk2⟩
 have es2:(L2++[Blk.cells 2 [[IV.int .i64 0,IV.int .i64 0]]]).set L2.length (Blk.cells 2 [[IV.int .i64 4,IV.int .i64 ((n+1:Nat):Int)]])=L2++[Blk.cells 2 [[IV.int .i64 4,IV.int .i64 ((n+1:Nat):Int)]]]:=by
  rw [List.set_append_right _ _ (Nat.le_refl _),Nat.sub_self];rfl
 simp only [h1,es2,go_sem,Nat.reduceEqDiff,reduceIte,Nat.reduceAdd,Nat.reduceLT]
 have k2:Keep FT L' L2:=(k1.mono (F':=FT) fun _ _ h=>h.elim).trans hk2 fun _ _ h=>h
 have k3:Keep FT L' (L2++[Blk.cells 2 [[IV.int .i64 4,IV.int .i64 ((n+1:Nat):Int)]]]):=Keep.app k2
 refine zh (za0 (E:=E.noPan) hP (hS.keep k3 fun u h1 h2=>hdis u h2 h1) (by omega) (by omega) hN3) ?_
 rintro r L4 ⟨rfl,⟨FS',hS4,hG4⟩,hk4⟩
 have hSl:=hS.lt.2.2
 have hTl:=hT.lt.2.2
 have h12:(L2++[Blk.cells 2 [[IV.int .i64 4,IV.int .i64 ((n+1:Nat):Int)]]])[L2.length]?=some (.cells 2 [[IV.int .i64 4,IV.int .i64 ((n+1:Nat):Int)]]):=by simp
 have g12:=hk4.get h12 fun h=>by have:=hSl _ h;have:=k2.1;omega
 have m12:=zg g12
 simp only [h0,h1,h2,g12,go_sem,Nat.reduceEqDiff,reduceIte,Nat.reduceAdd,Nat.reduceLT,Nat.reduceLeDiff]
 have hT2l:=hT2.lt.2.2
 have hGT:Grown FT FT' L' L4:=fun u hu=>by
  have e1:=hT2l u hu
  have e2:=k2.1
  have e3:=hk4.1
  rcases hG2 u hu with h | h
  ·exact .inl h
  ·right;simp only [lla,llc,lln] at h e3;omega
 have hGS:Grown FS FS' L' L4:=fun u hu=>by
  have e1:=hS4.lt.2.2 u hu
  have e2:=k2.1
  rcases hG4 u hu with h | h
  ·exact .inl h
  ·right;simp only [lla,llc,lln] at h;omega
 have hd4:∀u,FT' u->¬FS' u:=fun u h1 h2=>by
  have e1:=hT2l u h1
  rcases hG4 u h2 with h | h
  ·rcases hG2 u h1 with h5 | h5
   ·exact hdis u h5 h
   ·have:=hSl u h;simp only [lla,llc,lln] at h5;omega
  ·simp only [lla,llc,lln] at h;omega
 have hT4:ZC L4 t FT' NT' _:=(hT2.keep (Keep.app (k:=Blk.cells 2 [[IV.int .i64 4,IV.int .i64 ((n+1:Nat):Int)]]) Keep.refl:Keep none' L2 _) fun _ _ h=>h).keep hk4 fun u h1 h2=>by
  rcases hG2 u h1 with h5 | h5
  ·exact hdis u h5 h2
  ·have:=hSl u h2;simp only [lla,llc,lln] at h5;omega
 have k4:Keep (fun u=>FT u\/FS u) L' L4:=(k3.mono (F':=fun u=>FT u\/FS u) fun _ _ h=>.inl h).trans hk4 fun u _ h=>.inr h
 have k5:Keep none' L4 (L4++[ctxB t s (n+1) (floatOfInt .f64 ((n+1:Nat):Int)) 0 true]):=Keep.app Keep.refl
 refine ⟨L4.length,rfl,k4.1,by simp [ctxB],⟨FT',FS',NT',hNT,hT4.keep k5 fun _ _ h=>h,hS4.keep k5 fun _ _ h=>h,hd4,fun h=>?_,fun h=>?_,fun u hu=>?_,fun u hu=>?_⟩,k4.trans k5 fun _ _ h=>h.elim⟩
 ·have:=hT4.lt.2.2 _ h;omega
 ·have:=hS4.lt.2.2 _ h;omega
 ·rcases hGT u hu with h | h
  ·exact .inl h
  ·right;simp only [lla,llc,lln];omega
 ·rcases hGS u hu with h | h
  ·exact .inl h
  ·right;simp only [lla,llc,lln];omega
theorem Ws (hP:E.P=Tryz.prog) {c t s N ob n re im:Nat} {F:Nat->Prop} {d:KV} {l:List OpV} (hc:L[c]?=some (ctxB t s n re im true)) (hS:zt L s F N n d) (hFc:¬F c) (hob:L[ob]?=some (.cells 3 (zA l))) (hF:¬F ob) (hne:l≠[]) (hl:l.length<=100000) (ho:∀o∈l,o.fit) (hg:∀o∈l,o.gone=false) (hb:(opsR l).length<=1048512)
  (hN:d.length+l.length<=900000) (hN2:N+(opsR l).length+300<=1099511627776) :
  XT E 30 [.ptr c 0 0,.sl ob 0 l.length l.length] L fun r L'=>r=.int .i64 0/\(∃F',zt L' s F' (N+(opsR l).length+300) n (d.puts l)/\Grown F F' L L')/\Keep F L L':=by
 have lc:=zg hc
 have hc1:=hc
 unfold ctxB at hc
 refine xt2 (fn:=Tryz.f30) (rs:=[.tmp 4]) (c:=q30) hP fun ρ h0 h1=>?_
 unfold q30
 simp only [h0,h1,hc,go_sem,Nat.reduceEqDiff,reduceIte,Nat.reduceAdd,Nat.reduceLT]
 refine zh (z3i (E:=E.noPan) hP hS hob hF hne hl ho hg hb hN hN2) ?_
 rintro r L1 ⟨rfl,⟨F',hS1,hG⟩,hk⟩
 have g:=hk.get hc hFc
 have lg:=zg g
 simp only [h0,g,go_sem,Nat.reduceEqDiff,reduceIte,Int.reduceEq,Nat.reduceAdd]
 have e:L1.set c (Blk.cells 7 [[.ptr t 0 0,.ptr s 0 0,.int .i64 1,.int .i64 4,.int .i64 n,.raw (.complex .f64 re im),.bool true]])=L1:=Ji g
 rw [e]
 exact ⟨⟨F',hS1,hG⟩,hk⟩
end
end Go.X.TryzW
end
section
open Go Go.X Go.Proofs
set_option maxRecDepth 100000
set_option maxHeartbeats 4000000
namespace Go.X.TryzW
def q22 : XC :=(sO [oO 6 (.mov oz),oI 7 0] (.seq (sO [oM 8 0,oO 9 (.ex (.eqP false) [.t 8,oz]),oM 10 9,oG 11 10 false (.mov (.t 1)),oG 12 10 false (.bin .lss (.t 11) (oi 1)),oO 13 (.pick (.t 10) (.c (.bool true)) (.t 12)),oM 14 13,oG 15 14 false (.mov (.t 1)),oG 16 14 false (.bin .gtr (.t 15) (oi 16)),oO 17 (.pick (.t 14) (.c (.bool true)) (.t 16)),oM 18 17,oG 19 18 false (.mov (.t 2)),oG 20 18 false (.bin .lss (.t 19) (oi 0)),oO 21 (.pick (.t 18) (.c (.bool true)) (.t 20)),oM 22 21,oG 23 22 false (.mov (.t 2)),oG 24 22 false (.mov (.t 1)),oG 25 22 false (.bin .geq (.t 23) (.t 24)),oO 26 (.pick (.t 22) (.c (.bool true)) (.t 25))] (cT 26 (sO [oO 6 (.mov oz),oI 7 1] .ret) .skip)) (sO [oM 27 0,oM 28 1,oM 29 2,oO 30 (.build [(.raw (.pointer none)),(.int .i64 0),(.int .i64 0)] [(0,(1,(.t 27))),(1,(1,(.t 28))),(2,(1,(.t 29)))]),oO 31 (.box (.t 30)),oM 6 31,oI 7 0] .ret)))
def q24 : XC :=(sO [oI 4 0] (.seq (.block 0 (.seq (.drawE [oM 6 1,oO 7 (.ex (.eqP false) [.t 6,oz]),oM 8 7,oG 9 8 false (.mov (.t 1)),oG 10 8 false (.pcall (.f 82) [.t 9]),oG 11 8 false (.mov (.t 0)),oG 12 8 false (.nilck (.t 11)),oG 13 8 false (.fldA 2 (.t 12)),oG 14 8 false (.load1 (.t 13)),oG 15 8 false (.bin .neq (.t 10) (.t 14)),oO 16 (.pick (.t 8) (.c (.bool true)) (.t 15)),oM 5 16]) (cT 5 (sO [oI 4 1] .ret) (sO [oM 18 1,oC 19 83 [.t 18],oO 20 (.un .not (.t 19)),oM 17 20] (cT 17 (sO [oI 4 13] .ret) .skip))))) (sO [oI 4 0] .ret)))
def q25 : XC :=(sO [oV 4 (.bool false)] (sO [oM 5 1,oK 6 .geq 5 0,oM 7 6,oG 8 7 true (.mov (.t 1)),oG 9 7 true (.mov (.t 0)),oG 10 7 true (.nilck (.t 9)),oG 11 7 true (.fldA 1 (.t 10)),oG 12 7 true (.load1 (.t 11)),oG 13 7 true (.bin .lss (.t 8) (.t 12)),oO 14 (.pick (.t 7) (.t 13) (.c (.bool false))),oM 4 14] .ret))
def q49 : XC :=(sO [oI 4 0] (sO [oM 11 0,oN 12 11,oF 13 0 12,oL 14 13,oM 15 1,oC 16 122 [.t 14,.t 15],oM 10 16,oX 17 0 10,oX 18 1 10,oM 5 17,oM 6 18] (sO [oM 20 5,oO 21 (.ex (.strB 5) [.t 20]),oC 22 77 [.t 21],oM 19 22,oX 23 0 19,oX 24 1 19,oX 25 2 19,oM 7 23,oM 8 24,oM 9 25] (sO [oM 26 7,oM 4 26] .ret))))
def q11 : XC :=(sO [oI 4 0] (.seq (sO [oM 5 0,oM 6 1,oC 7 25 [.t 5,.t 6],oO 8 (.un .not (.t 7))] (cT 8 (sO [oI 4 0] .ret) .skip)) (sO [oM 9 0,oM 10 1,oC 11 28 [.t 10],oC 12 49 [.t 9,.t 11],oM 4 12] .ret)))
def q26 : XC :=(sO [oO 2 (.mov oz)] (sO [oM 3 0,oO 4 (.ex .mmake []),oO 5 (.build [(.raw (.pointer none)),.nsl,(.raw (.map none)),(.int .i64 0),(.bool false)] [(0,(1,(.t 3))),(2,(1,(.t 4)))]),oO 6 (.box (.t 5)),oM 2 6] .ret))
def q41 : XC :=(.drawR [(oM 6 0,([],false)),(oM 7 0,([],false)),(oN 8 7,([],false)),(oF 9 1 8,([],false)),(oL 10 9,([],true)),(oM 11 1,([],false)),(oM 12 2,([],false)),(oO 13 (.ex .bStr [.t 12]),([],false)),(oO 14 (.build [(.str []),(.str []),(.bool false)] [(0,(1,(.t 11))),(1,(1,(.t 13)))]),([],false)),(oO 15 (.bslice 3 [(.str []),(.str []),(.bool false)] 1 [(0,(.t 14))]),([4],false)),(oO 16 (.append 3 40 (.t 10) (.t 15)),([],false)),(oN 17 6,([],false)),(oF 18 1 17,([],false)),(oS 18 16,([],false))])
def q27 : XC :=(sO [oM 9 2,oC 10 84 [.t 9],oM 8 10,oX 11 0 8,oX 12 1 8,oM 6 11,oM 7 12] (.ops [oM 13 0,oM 14 1,oM 15 6,oC 16 41 [.t 13,.t 14,.t 15]]))
section
variable {E:Env} {ρ:Rho} {L:List Blk} {K:IV->List Blk->Prop}
def exB (s:Nat):Blk:=.cells 3 [[.ptr s 0 0,.int .i64 3,.int .i64 1]]
theorem zdU (hP:E.P=Tryz.prog) {s:Nat}:XT E 22 [.ptr s 0 0,.int .i64 3,.int .i64 1] L fun r L'=>r=.tup [.ptr L.length 0 0,.int .i64 0]/\L'=L++[exB s]:=by
 refine xt3 (fn:=Tryz.f22) (rs:=[.tmp 6,.tmp 7]) (c:=q22) hP fun ρ h0 h1 h2=>?_
 unfold q22
 have ep:∀u:Nat,WG (.ptr u 0 0) (.raw (.pointer none))=some false:=fun _=>rfl
 simp only [h0,h1,h2,ep,go_sem,Nat.reduceEqDiff,reduceIte,Int.reduceLT,Int.reduceLE,Nat.reduceAdd,Nat.reduceLeDiff]
 rfl
theorem Jm (hP:E.P=Tryz.prog) {x s k:Nat} (hx:L[x]?=some (exB s)) (hk:k<3):XT E 25 [.ptr x 0 0,.int .i64 k] L fun r L'=>r=.bool true/\L'=L:=by
 have lx:=zg hx
 unfold exB at hx
 have f1:((0:Int)<=(k:Int))=True:=eq_true (by omega)
 have f2:((k:Int)<3)=True:=eq_true (by omega)
 refine xt2 (fn:=Tryz.f25) (rs:=[.tmp 4]) (c:=q25) hP fun ρ h0 h1=>?_
 unfold q25
 simp only [h0,h1,hx,f1,f2,go_sem,Nat.reduceEqDiff,reduceIte,Nat.reduceAdd,Nat.reduceLT]
theorem JD (hP:E.P=Tryz.prog) {x s c t sc n re im:Nat} (hx:L[x]?=some (exB s)) (hc:L[c]?=some (ctxB t sc n re im true)):XT E 24 [.ptr x 0 0,.ptr c 0 0] L fun r L'=>r=.int .i64 0/\L'=L:=by
 have lx:=zg hx
 have hx1:=hx
 unfold exB at hx
 refine xt2 (fn:=Tryz.f24) (rs:=[.tmp 4]) (c:=q24) hP fun ρ h0 h1=>?_
 unfold q24
 have ep:∀u:Nat,WG (.ptr u 0 0) (.raw (.pointer none))=some false:=fun _=>rfl
 simp only [h1,ep,go_sem,Nat.reduceEqDiff,reduceIte]
 refine yH (E:=E.noPan) (.int .i64 1) rfl (fun L' ha=>z9X (by exact hP) (by rw [ha c (zf hc)];exact hc)) ?_
 simp only [h0,h1,hx,go_sem,Nat.reduceEqDiff,reduceIte,Nat.reduceAdd,Nat.reduceLT]
 refine zh (z9v (E:=E.noPan) hP hc) ?_
 rintro r L' ⟨rfl,rfl⟩
 simp only [go_sem,Nat.reduceEqDiff,reduceIte]
def WF (d:KV) (k:List UInt8) (n:Nat):Prop:=((d.get k=none/\n=0)\/d.get k=some (strOf (numR n)))/\n<=4503599627370496
theorem z1W {n:Nat} (hn:n<=4503599627370496):(numR n).length<=8:=by
 have:=zF n
 have:=Za (n:=n) (k:=7) (by omega)
 omega
theorem zaP (hP:E.P=Tryz.prog) {x s N n:Nat} {F:Nat->Prop} {fence:Int} {d:KV} {k:List UInt8} (hx:L[x]?=some (exB s)) (hS:zt L s F N fence d) (hn:WF d k n):XT E 49 [.ptr x 0 0,.str k] L fun r L'=>r=.int .i64 n/\L'=L:=by
 refine Z7 (R:=fun r L'=>r=.int .i64 n/\Keep none' L L') ?_ ?_
 ·skip
  have lx:=zg hx
  unfold exB at hx
  refine xt2 (fn:=Tryz.f49) (rs:=[.tmp 4]) (c:=q49) hP fun ρ h0 h1=>?_
  unfold q49
  simp only [h0,h1,hx,go_sem,Nat.reduceEqDiff,reduceIte,Nat.reduceAdd]
  refine zh (z8c (E:=E.noPan) hP hS _) ?_
  rintro r L1 ⟨rfl,rfl⟩
  have hp:=Zp (n:=n) (by have:=hn.2;omega)
  have hnl:=z1W hn.2
  obtain ⟨⟨hg,rfl⟩ | hg,hn2⟩:=hn
  ·unfold getR
   rw [hg]
   have e1:(none:Option (List UInt8)).getD []=[]:=rfl
   simp only [e1,lln,go_sem,Nat.reduceEqDiff,reduceIte,Nat.reduceAdd,Nat.reduceLT,Nat.reduceLeDiff]
   refine Y9 (args':=[.isl []]) ?_ (jZ (E:=E.noPan) hP) rfl rfl ?_
   ·exact We (s:=[]) rfl
   simp only [go_sem,Nat.reduceEqDiff,reduceIte,Nat.reduceAdd,Nat.reduceLT]
   (repeat' first | exact Keep.refl | apply Keep.app | apply Keep.set)<;>(intro hh;first | rfl | (exfalso;first | omega | (simp only [lla,lls,llc,lln] at hh;omega)))
  ·unfold getR
   rw [hg]
   have e1:(some (strOf (numR n))).getD []=strOf (numR n):=rfl
   have f1:((strOf (numR n)).length<=9223372036854775807)=True:=eq_true (by rw [hp.len];omega)
   simp only [e1,f1,go_sem,Nat.reduceEqDiff,reduceIte,Nat.reduceAdd,Nat.reduceLT]
   refine Y9 (args':=[.isl (numR n)]) ?_ (z0n (E:=E.noPan) hP hn2) rfl rfl ?_
   ·rw [We rfl,hp.rows]
   simp only [go_sem,Nat.reduceEqDiff,reduceIte,Nat.reduceAdd,Nat.reduceLT]
   (repeat' first | exact Keep.refl | apply Keep.app | apply Keep.set)<;>(intro hh;first | rfl | (exfalso;first | omega | (simp only [lla,lls,llc,lln] at hh;omega)))
 ·rintro r L' ⟨rfl,hk⟩
  exact ⟨hk,_,rfl,rfl⟩
def yC (k:Nat):List UInt8:=[109,47,48,(48+k).toUInt8]
theorem wY (hP:E.P=Tryz.prog) {k:Nat} (hk:k<3):zI E 28 [.int .i64 k] (.str (yC k)):=by
 match k,hk with
 | 0,_=>exact z1C hP
 | 1,_=>exact z1j hP
 | 2,_=>exact z1E hP
theorem JH (hP:E.P=Tryz.prog) {x s N n k:Nat} {F:Nat->Prop} {fence:Int} {d:KV} (hx:L[x]?=some (exB s)) (hS:zt L s F N fence d) (hk:k<3) (hn:WF d (yC k) n):XT E 11 [.ptr x 0 0,.int .i64 k] L fun r L'=>r=.int .i64 n/\L'=L:=by
 refine xt2 (fn:=Tryz.f11) (rs:=[.tmp 4]) (c:=q11) hP fun ρ h0 h1=>?_
 unfold q11
 simp only [h0,h1,go_sem,Nat.reduceEqDiff,reduceIte]
 refine zh (Jm (E:=E.noPan) hP hx hk) ?_
 rintro r L' ⟨rfl,rfl⟩
 simp only [h0,h1,go_sem,Nat.reduceEqDiff,reduceIte]
 refine zq (args':=[.int .i64 k]) rfl (wY (E:=E.noPan) hP hk) rfl ?_
 simp only [go_sem,Nat.reduceEqDiff,reduceIte]
 refine zh (zaP (E:=E.noPan) hP hx hS hn) ?_
 rintro r L' ⟨rfl,rfl⟩
 simp only [go_sem,Nat.reduceEqDiff,reduceIte]
def zhn (L:List Blk) (v:IV) (l:List OpV):Prop:=(v=.nsl/\l=[])\/∃g,v=.sl g 0 l.length l.length/\L[g]?=some (.cells 3 (zA l))/\l≠[]
def ZE (L:List Blk) (b x:Nat) (l:List OpV) (sz:Int) (F:Nat->Prop):Prop:=∃v m,L[b]?=some (.cells 5 [[.ptr x 0 0,v,.mp m,.int .i64 sz,.bool false]])/\L[m]?=some (.map [] 0)/\zhn L v l/\F=fun u=>u=b\/u=m\/∃n,v=.sl u 0 n n
theorem z5S (hP:E.P=Tryz.prog) {x:Nat}:XT E 26 [.ptr x 0 0] L fun r L'=>∃b,r=.ptr b 0 0/\(∃F,ZE L' b x [] 0 F/\∀u,F u->L.length<=u/\u<L'.length)/\Keep none' L L':=by
 refine xt1 (fn:=Tryz.f26) (rs:=[.tmp 2]) (c:=q26) hP fun ρ h0=>?_
 unfold q26
 simp only [h0,go_sem,Nat.reduceEqDiff,reduceIte,Nat.reduceAdd,Nat.reduceLeDiff]
 refine ⟨_,rfl,⟨_,⟨.nsl,L.length,by simp,by simp,.inl ⟨rfl,rfl⟩,rfl⟩,?_⟩,by (repeat' first | exact Keep.refl | apply Keep.app | apply Keep.set)<;>(intro hh;first | rfl | (exfalso;first | omega | (simp only [lla,lls,llc,lln] at hh;omega)))⟩
 rintro u (rfl | rfl | ⟨n,h⟩)
 ·simp
 ·simp
 ·cases h
theorem z1l (hP:E.P=Tryz.prog) {b x:Nat} {l:List OpV} {sz:Int} {F:Nat->Prop} {k s:List UInt8} {w:IV} (h:ZE L b x l sz F) (hw:∀M,Keep none' L M->(yx M w).bind (mapO byteOf)=some s) (hN:l.length<=100000) :
  XT E 41 [.ptr b 0 0,.str k,w] L fun r L'=>r=.tup []/\(∃F',ZE L' b x (l++[⟨k,s,false⟩]) sz F'/\Grown F F' L L')/\Keep F L L':=by
 obtain ⟨v,m,hb,hm,hv,rfl⟩:=h
 have lb:=zg hb
 have hw0:=hw L Keep.refl
 refine xt3 (fn:=Tryz.f41) (rs:=[]) (c:=q41) hP fun ρ h0 h1 h2=>?_
 unfold q41
 simp only [h0,h1,h2,hb,lb,hw0,go_sem,Nat.reduceEqDiff,reduceIte,Nat.reduceAdd,Nat.reduceLT,Nat.reduceLeDiff]
 have hrl:∀q:List OpV,(zA q).length=q.length:=fun q=>by simp [zA]
 have hrc:yj 3 [[IV.str k,IV.str s,IV.bool false]]:=fun r hr=>by simp at hr;subst hr;exact ⟨rfl,rfl⟩
 have hx1:rowsOf (L++[Blk.cells 3 [[IV.str k,IV.str s,IV.bool false]]]) (.sl L.length 0 1 1)=some [[IV.str k,IV.str s,IV.bool false]]:=Zz (sz:=3) (by simp) rfl
 have hbm:¬b=m:=fun h=>by subst h;rw [hb] at hm;simp at hm
 have hlb:=zf hb
 have hlm:=zf hm
 rcases hv with ⟨rfl,rfl⟩ | ⟨g,rfl,hg,hne⟩
 ·refine YM hx1 hrc (by simp) (by simp) ?_
  simp only [hb,lb,go_sem,Nat.reduceEqDiff,reduceIte,Nat.reduceAdd,Nat.reduceLeDiff]
  obtain ⟨g2,hg2⟩:∃g2,(L++[Blk.cells 3 [[IV.str k,IV.str s,IV.bool false]]]).length=g2:=⟨_,rfl⟩
  have ng2:g2=L.length+1:=by rw [<-hg2];simp
  rw [hg2]
  refine ⟨⟨_,⟨.sl g2 0 1 1,m,?_,?_,.inr ⟨g2,rfl,?_,by simp⟩,rfl⟩,?_⟩,?_⟩
  ·rw [List.getElem?_set_self (by simp;omega)]
  ·rw [List.getElem?_set_ne hbm,List.append_assoc,List.getElem?_append_left hlm];exact hm
  ·rw [List.getElem?_set_ne (by omega),<-hg2,List.getElem?_append_right (Nat.le_refl _),Nat.sub_self];rfl
  ·rintro u (rfl | rfl | ⟨n,hn⟩)
   ·exact .inl (.inl rfl)
   ·exact .inl (.inr (.inl rfl))
   ·cases hn;right;simp;omega
  ·exact Keep.set (Keep.app (Keep.app Keep.refl)) fun _=>.inl rfl
 ·have lg:=zg hg
  have hlg:=zf hg
  have q1:=zo hb hg (by simp)
  have q2:(g=b)=False:=eq_false fun h=>of_eq_false q1 h.symm
  have hgm:¬g=m:=fun h=>by subst h;rw [hg] at hm;simp at hm
  refine Yg (yM hg) (hrl l) hx1 hrc (by simp) (by simp;omega) ?_
  simp only [hb,lb,q2,go_sem,Nat.reduceEqDiff,reduceIte,Nat.reduceAdd,Nat.reduceLeDiff]
  obtain ⟨g2,hg2⟩:∃g2,(L++[Blk.cells 3 [[IV.str k,IV.str s,IV.bool false]]]).length=g2:=⟨_,rfl⟩
  have ng2:g2=L.length+1:=by rw [<-hg2];simp
  rw [hg2]
  have hll:(l++[(⟨k,s,false⟩:OpV)]).length=l.length+1:=by simp
  refine ⟨⟨_,⟨.sl g2 0 (l.length+1) (l.length+1),m,?_,?_,.inr ⟨g2,by rw [hll],?_,by simp⟩,rfl⟩,?_⟩,?_⟩
  ·rw [List.getElem?_set_self (by simp;omega)]
  ·rw [List.getElem?_set_ne hbm,List.getElem?_append_left (by simp;omega),List.getElem?_set_ne hgm,List.getElem?_append_left hlm];exact hm
  ·rw [List.getElem?_set_ne (by omega),List.getElem?_append_right (by simp;omega)]
   have e0:g2 - ((L++[Blk.cells 3 [[IV.str k,IV.str s,IV.bool false]]]).set g Blk.dead).length=0:=by rw [lls,hg2];omega
   rw [e0]
   simp [zA,OpV.row]
  ·rintro u (rfl | rfl | ⟨n,hn⟩)
   ·exact .inl (.inl rfl)
   ·exact .inl (.inr (.inl rfl))
   ·cases hn;right;simp;omega
  ·exact Keep.set (Keep.app (Keep.set (Keep.app Keep.refl) fun _=>.inr (.inr ⟨_,rfl⟩))) fun _=>.inl rfl
theorem ZE.lt {b x:Nat} {l:List OpV} {sz:Int} {F:Nat->Prop} (h:ZE L b x l sz F):b<L.length/\F b/\∀u,F u->u<L.length:=by
 obtain ⟨v,m,hb,hm,hv,rfl⟩:=h
 refine ⟨zf hb,.inl rfl,?_⟩
 rintro u (rfl | rfl | ⟨n,hn⟩)
 ·exact zf hb
 ·exact zf hm
 ·rcases hv with ⟨rfl,_⟩ | ⟨g,rfl,hg,_⟩
  ·cases hn
  ·cases hn;exact zf hg
theorem ZE.keep {b x:Nat} {l:List OpV} {sz:Int} {F G:Nat->Prop} {L':List Blk} (h:ZE L b x l sz F) (hk:Keep G L L') (hn:∀u,F u->¬G u):ZE L' b x l sz F:=by
 obtain ⟨v,m,hb,hm,hv,rfl⟩:=h
 refine ⟨v,m,hk.get hb (hn _ (.inl rfl)),hk.get hm (hn _ (.inr (.inl rfl))),?_,rfl⟩
 rcases hv with hv | ⟨g,rfl,hg,hne⟩
 ·exact .inl hv
 ·exact .inr ⟨g,rfl,hk.get hg (hn _ (.inr (.inr ⟨_,rfl⟩))),hne⟩
theorem z16 (hP:E.P=Tryz.prog) {b x n:Nat} {l:List OpV} {sz:Int} {F:Nat->Prop} {k:List UInt8} (h:ZE L b x l sz F) (hn:n<=4503599627370496) (hN:l.length<=100000) :
  XT E 27 [.ptr b 0 0,.str k,.int .i64 n] L fun r L'=>r=.tup []/\(∃F',ZE L' b x (l++[⟨k,strOf (numR n),false⟩]) sz F'/\Grown F F' L L')/\Keep F L L':=by
 refine xt3 (fn:=Tryz.f27) (rs:=[]) (c:=q27) hP fun ρ h0 h1 h2=>?_
 unfold q27
 simp only [h2,go_sem,reduceIte]
 refine zq (args':=[.int .i64 n]) rfl (JS (E:=E.noPan) hP hn) rfl ?_
 simp only [h0,h1,go_sem,Nat.reduceEqDiff,reduceIte,Nat.reduceAdd,Nat.reduceLT]
 refine zh (z1l (E:=E.noPan) (s:=strOf (numR n)) hP h (fun M _=>(Zp (by omega)).str) hN) ?_
 rintro r L' ⟨rfl,h2,h3⟩
 simp only [go_sem]
 exact ⟨h2,h3⟩
end
end Go.X.TryzW
end
section
open Go Go.X Go.Proofs
set_option maxRecDepth 100000
set_option maxHeartbeats 4000000
namespace Go.X.TryzW
def q7 : XC :=(sO [oI 10 0] (.seq (sO [oM 15 0,oM 16 1,oC 17 24 [.t 15,.t 16],oM 11 17] (sO [oM 18 11,oK 19 .neq 18 0] (cT 19 (sO [oM 20 11,oM 10 20] .ret) .skip))) (.seq (.block 0 (sO [oM 22 0,oM 23 2,oC 24 25 [.t 22,.t 23],oO 25 (.un .not (.t 24)),oM 21 25] (cT 21 (sO [oI 10 1] .ret) (sO [oM 27 3,oM 28 0,oM 29 2,oC 30 11 [.t 28,.t 29],oK 31 .add 30 1,oB 32 .neq 27 31,oM 26 32] (cT 26 (sO [oI 10 14] .ret) .skip))))) (sO [oM 33 0,oC 34 26 [.t 33],oM 12 34] (sO [oM 35 12,oM 36 2,oC 37 28 [.t 36],oM 38 3,oC 39 27 [.t 35,.t 37,.t 38]] (.seq (sO [oM 40 4,oY 41 40,oI 42 0] (.block 1 (.loop (sO [oB 43 .lss 42 41] (.seq (cT 43 .skip (.exit 1)) (.seq (.block 2 (sO [oO 44 (.idxS 7 (.t 40) (.t 42)),oO 45 (.loadN 7 (.t 44)),oO 14 (.alloc [(.int .i64 0),(.str []),(.str []),(.str []),(.str []),(.str []),(.int .i64 0)]),oU (.store 7 (.t 14) (.t 45))] (.drawE [oM 46 12,oN 47 46,oF 48 3 47,oL 49 48,oM 50 12,oO 51 (.loadN 7 (.t 14)),oQ 52 29 [.t 50,.t 51],oB 53 .add 49 52,oN 54 46,oF 55 3 54,oS 55 53]))) (.ops [oK 56 .add 42 1,oM 42 56]))))))) (.seq (sO [oM 57 12,oN 58 57,oF 59 4 58,oL 60 59,oM 61 60,oG 62 61 false (.mov (.t 12)),oG 63 61 false (.nilck (.t 62)),oG 64 61 false (.fldA 3 (.t 63)),oG 65 61 false (.load1 (.t 64)),oG 66 61 false (.bin .gtr (.t 65) (oi 65000)),oO 67 (.pick (.t 61) (.c (.bool true)) (.t 66))] (cT 67 (sO [oI 10 2] .ret) .skip)) (sO [oM 68 1,oM 69 12,oN 70 69,oF 71 1 70,oL 72 71,oC 73 30 [.t 68,.t 72],oM 10 73] .ret))))))))
section
variable {E:Env} {ρ:Rho} {L:List Blk} {K:IV->List Blk->Prop}
theorem zt.mono {s N N':Nat} {F:Nat->Prop} {fence:Int} {d:KV} (h:zt L s F N fence d) (hn:N<=N'):zt L s F N' fence d:=by
 obtain ⟨lg,m,FL,FK,keys,sz,cm,h1,h2,h3⟩:=h
 exact ⟨lg,m,FL,FK,keys,sz,cm,h1,h2.mono hn,h3⟩
theorem zc2 (hP:E.P=Tryz.prog) {x s c t sc n re im N k m q:Nat} {F:Nat->Prop} {fence:Int} {d:KV} (hx:L[x]?=some (exB s)) (hc:L[c]?=some (ctxB t sc n re im true)) (hS:zt L s F N fence d) (hk:k<3) (hm:WF d (yC k) m) (hq:q≠m+1) :
  XT E 7 [.ptr x 0 0,.ptr c 0 0,.int .i64 k,.int .i64 q,.nsl] L fun r L'=>r=.int .i64 14/\L'=L:=by
 refine xt5 (fn:=Tryz.f7) (rs:=[.tmp 10]) (c:=q7) hP fun ρ h0 h1 h2 h3 h4=>?_
 unfold q7
 simp only [h0,h1,go_sem,Nat.reduceEqDiff,reduceIte]
 refine zh (JD (E:=E.noPan) hP hx hc) ?_
 rintro r L' ⟨rfl,rfl⟩
 simp only [h0,h2,go_sem,Nat.reduceEqDiff,reduceIte]
 refine zh (Jm (E:=E.noPan) hP hx hk) ?_
 rintro r L' ⟨rfl,rfl⟩
 simp only [h0,h2,h3,go_sem,Nat.reduceEqDiff,reduceIte]
 refine zh (JH (E:=E.noPan) hP hx hS hk hm) ?_
 rintro r L' ⟨rfl,rfl⟩
 have w1:IntKind.i64.wrap ((m:Int)+1)=((m+1:Nat):Int):=by have:=hm.2;rw [wrap64 (by omega) (by omega)];rfl
 have f1:((q:Int)=((m+1:Nat):Int))=False:=eq_false (by omega)
 simp only [w1,f1,go_sem,Nat.reduceEqDiff,reduceIte]
theorem zbz (hP:E.P=Tryz.prog) {x s c t n re im N k m:Nat} {F:Nat->Prop} {d:KV} (hx:L[x]?=some (exB s)) (hc:L[c]?=some (ctxB t s n re im true)) (hS:zt L s F N n d) (hFc:¬F c) (hk:k<3) (hm:WF d (yC k) m) (hm2:m<=1000000)
  (hN:d.length<=800000) (hN2:N+1000<=1099511627776) :
  XT E 7 [.ptr x 0 0,.ptr c 0 0,.int .i64 k,.int .i64 ((m+1:Nat):Int),.nsl] L fun r L'=>r=.int .i64 0/\(∃F',zt L' s F' (N+1000) n (d.put (yC k) (strOf (numR (m+1))))/\Grown F F' L L')/\Keep F L L':=by
 refine xt5 (fn:=Tryz.f7) (rs:=[.tmp 10]) (c:=q7) hP fun ρ h0 h1 h2 h3 h4=>?_
 unfold q7
 simp only [h0,h1,go_sem,Nat.reduceEqDiff,reduceIte]
 refine zh (JD (E:=E.noPan) hP hx hc) ?_
 rintro r L' ⟨rfl,rfl⟩
 simp only [h0,h2,go_sem,Nat.reduceEqDiff,reduceIte]
 refine zh (Jm (E:=E.noPan) hP hx hk) ?_
 rintro r L' ⟨rfl,rfl⟩
 simp only [h0,h2,h3,go_sem,Nat.reduceEqDiff,reduceIte]
 refine zh (JH (E:=E.noPan) hP hx hS hk hm) ?_
 rintro r L' ⟨rfl,rfl⟩
 have w1:IntKind.i64.wrap ((m:Int)+1)=((m+1:Nat):Int):=by rw [wrap64 (by omega) (by omega)];rfl
 simp only [h0,w1,go_sem,Nat.reduceEqDiff,reduceIte]
 refine zh (z5S (E:=E.noPan) hP) ?_
 rintro r L1 ⟨b,rfl,⟨FB,hB,hFB⟩,hk1⟩
 simp only [h2,go_sem,Nat.reduceEqDiff,reduceIte]
 refine zq (args':=[.int .i64 k]) rfl (wY (E:=E.noPan) hP hk) rfl ?_
 simp only [h3,go_sem,Nat.reduceEqDiff,reduceIte]
 refine zh (z16 (E:=E.noPan) hP hB (n:=m+1) (by omega) (by simp)) ?_
 rintro r L2 ⟨rfl,⟨FB2,hB2,hGB⟩,hk2⟩
 have ln:lenOf .nsl=some 0:=rfl
 simp only [h4,zC ln,go_sem,Nat.reduceEqDiff,reduceIte]
 refine ZV ?_
 simp only [go_sem,Nat.reduceEqDiff,reduceIte,Int.reduceLT]
 simp only [List.nil_append] at hB2
 have hB2l:=hB2.lt.2.2
 obtain ⟨v,mm,hb,hmm,hv,rfl⟩:=hB2
 rcases hv with ⟨_,h0'⟩ | ⟨g,rfl,hg,_⟩
 ·cases h0'
 have lb:=zg hb
 have k02:Keep none' L' L2:=hk1.trans hk2 fun u hu h=>by have:=hFB u h;omega
 have hgl:L'.length<=g:=by
  rcases hGB g (.inr (.inr ⟨_,rfl⟩)) with h | h
  ·exact (hFB g h).1
  ·have:=hk1.1;omega
 simp only [h1,hb,go_sem,Nat.reduceEqDiff,reduceIte,Int.reduceLT,Nat.reduceAdd,Nat.reduceLT]
 let ov:OpV:=⟨yC k,strOf (numR (m+1)),false⟩
 have hp:=Zp (n:=m+1) (by omega)
 have hnl:=z1W (n:=m+1) (by omega)
 have hkl:(yC k).length=4:=rfl
 have hfit:∀q∈[ov],q.fit:=fun q hq=>by
  simp only [List.mem_singleton] at hq
  subst hq
  exact ⟨(show yC k≠[] by unfold yC;exact List.cons_ne_nil _ _),(show (yC k).length<=200 by omega),by show (strOf (numR (m+1))).length<=_;rw [hp.len];omega,fun h=>by cases h⟩
 have hlen:=Js (l:=[ov]) (m:=12) (Nat.le_of_ble_eq_true rfl) fun q hq=>by
  simp only [List.mem_singleton] at hq
  subst hq
  refine ⟨(hfit ov (by simp)).ok,?_⟩
  show (yC k).length+(strOf (numR (m+1))).length<=12
  rw [hp.len];omega
 have hlen:(opsR [ov]).length<=37:=hlen
 refine zh (Ws (E:=E.noPan) (l:=[ov]) hP (k02.get hc fun h=>h) (hS.keep k02 fun _ _ h=>h) hFc hg (fun h=>by have:=hS.lt.2.2 _ h;omega) (by simp) (Nat.le_of_ble_eq_true rfl) hfit (fun q hq=>by simp only [List.mem_singleton] at hq;subst hq;rfl) (by omega) (by simp;omega) (by omega)) ?_
 rintro r L3 ⟨rfl,⟨F',hS3,hG3⟩,hk3⟩
 simp only [go_sem,Nat.reduceEqDiff,reduceIte,Int.reduceLT]
 refine ⟨⟨F',hS3.mono (by omega),fun u hu=>?_⟩,(k02.mono (F':=F) fun _ _ h=>h.elim).trans hk3 fun _ _ h=>h⟩
 rcases hG3 u hu with h | h
 ·exact .inl h
 ·have:=k02.1;right;omega
end
end Go.X.TryzW
end
section
open Go Go.X Go.Proofs
set_option maxRecDepth 100000
set_option maxHeartbeats 4000000
namespace Go.X.TryzW
def q32a : XC :=(.ops [oM 8 15])
def q32b : XC :=(.block 1 (.seq (sO [oM 16 8,oL 17 3,oB 18 .eql 16 17] (cT 18 (sO [oL 19 6,oS 4 19,oU (.store 1 (.t 5) (.c (.bool true)))] .ret) .skip)) (.ops [oL 20 6,oK 21 .add 20 1,oS 6 21])))
def q32 : XC :=(sO [oO 3 (.box (.t 1)),oO 4 (.alloc [(.int .i64 0)]),oO 5 (.alloc [(.bool false)])] (sO [oO 6 (.alloc [(.int .i64 0)]),oU (.store 1 (.t 6) (oi 0))] (.seq (sO [oM 9 0,oN 10 9,oF 11 0 10,oL 12 11,oO 13 (.call (.f 91) [.t 12,(.c (.str [110,47])),(.c (.str [110,48]))])] (.block 0 (.rngF (.t 13) 23 [14,15] q32a q32b))) (sO [oL 22 6,oS 4 22,oU (.store 1 (.t 5) (.c (.bool false)))] .ret)))) /- "tiller/exec.keyEvents" params { toList := [3] } results { toList := [Go.ResultVar.tmp 2] } -/
section
variable {E:Env} {ρ:Rho} {L:List Blk} {K:IV->List Blk->Prop}
def jX (ps:KV) (name:List UInt8):Nat:=ps.findIdx fun p=>decide (p.2=name)
def NInv (yb t3 t4 t5 t6:Nat) (lp:Blk) (name:List UInt8) (ps:KV) (i:Nat) (G:Nat->Prop) (L1:List Blk):Prop:=L1[yb]?=some lp/\L1[t3]?=some (.cells 1 [[.str name]])/\L1[t4]?=some (.cells 1 [[.int .i64 0]])/\L1[t5]?=some (.cells 1 [[.bool false]])/\L1[t6]?=some (.cells 1 [[.int .i64 i]])/\
 (∀(j:Nat) (p:List UInt8 × List UInt8),j<i->ps[j]?=some p->p.2≠name)/\G=fun t=>t=yb\/t=t3\/t=t4\/t=t5\/t=t6
def zgJ (L0:List Blk) (yb t3 t4 t5 t6:Nat) (r0:Loop) (l:List IV) (name:List UInt8) (ps:KV) (L1:List Blk):Prop:=∃i:Nat,i<ps.length/\jX ps name=i/\L1[yb]?=some (.lp { r0 with state:=.done,pending:=some .ret } l)/\L1[t4]?=some (.cells 1 [[.int .i64 i]])/\L1[t5]?=some (.cells 1 [[.bool true]])/\
 Keep (fun t=>t=yb\/t=t3\/t=t4\/t=t5\/t=t6) L0 L1
theorem zaZ {ps:KV} {name:List UInt8} {i:Nat} {p:List UInt8 × List UInt8} (hp:ps[i]?=some p) (h:p.2=name) (hb:∀(j:Nat) (q:List UInt8 × List UInt8),j<i->ps[j]?=some q->q.2≠name):jX ps name=i:=by
 have hi:=zf hp
 unfold jX
 rw [List.findIdx_eq hi]
 rw [List.getElem?_eq_getElem hi] at hp
 simp only [sij] at hp
 refine ⟨by rw [hp];exact decide_eq_true h,fun j hj=>?_⟩
 have:=hb j _ hj (List.getElem?_eq_getElem (by omega))
 exact decide_eq_false this
theorem zaF {ps:KV} {name:List UInt8} (hb:∀(j:Nat) (q:List UInt8 × List UInt8),j<ps.length->ps[j]?=some q->q.2≠name):jX ps name=ps.length:=by
 unfold jX
 rw [List.findIdx_eq_length]
 intro q hq
 obtain ⟨j,hj,rfl⟩:=List.getElem_of_mem hq
 exact decide_eq_false (hb j _ hj (List.getElem?_eq_getElem hj))
theorem z6w (hP:E.P=Tryz.prog) {x s N:Nat} {F:Nat->Prop} {fence:Int} {d:KV} {name:List UInt8} (hx:L[x]?=some (exB s)) (h:zt L s F N fence d) (hN:d.length<=900000) :
  XT E 32 [.ptr x 0 0,.str name] L fun r L'=>r=.tup [.int .i64 (jX (d.scan [110,47] [110,48]) name),.bool (decide (jX (d.scan [110,47] [110,48]) name<(d.scan [110,47] [110,48]).length))]/\Keep none' L L':=by
 have lx:=zg hx
 unfold exB at hx
 refine xt2 (fn:=Tryz.f32) (rs:=[.cell1 4,.cell1 5]) (c:=q32) hP fun ρ h0 h1=>?_
 unfold q32
 simp (maxDischargeDepth:=12) only [h0,h1,hx,lx,go_sem,Nat.reduceEqDiff,reduceIte,Nat.reduceAdd]
 refine zh (z9c (E:=E.noPan) hP) ?_
 rintro r L1 ⟨rfl,rfl⟩
 simp (maxDischargeDepth:=12) only [go_sem]
 obtain ⟨t3,e3⟩:∃t3,L.length=t3:=⟨_,rfl⟩
 obtain ⟨t4,e4⟩:∃t4,(L++[Blk.cells 1 [[IV.str name]]]).length=t4:=⟨_,rfl⟩
 obtain ⟨t5,e5⟩:∃t5,(L++[Blk.cells 1 [[IV.str name]]]++[Blk.cells 1 [[IV.int .i64 0]]]).length=t5:=⟨_,rfl⟩
 obtain ⟨t6,e6⟩:∃t6,(L++[Blk.cells 1 [[IV.str name]]]++[Blk.cells 1 [[IV.int .i64 0]]]++[Blk.cells 1 [[IV.bool false]]]).length=t6:=⟨_,rfl⟩
 obtain ⟨B,eB⟩:∃B,(L++[Blk.cells 1 [[IV.str name]]]++[Blk.cells 1 [[IV.int .i64 0]]]++[Blk.cells 1 [[IV.bool false]]]++[Blk.cells 1 [[IV.int .i64 0]]]).length=B:=⟨_,rfl⟩
 have n4:t4=t3+1:=by rw [<-e4,<-e3];simp
 have n5:t5=t3+2:=by rw [<-e5,<-e3];simp
 have n6:t6=t3+3:=by rw [<-e6,<-e3];simp
 have nB:B=t3+4:=by rw [<-eB,<-e3];simp
 rw [e3,e4,e5,e6,eB]
 obtain ⟨M,eM⟩:∃M,(L++[Blk.cells 1 [[IV.str name]]]++[Blk.cells 1 [[IV.int .i64 0]]]++[Blk.cells 1 [[IV.bool false]]]++[Blk.cells 1 [[IV.int .i64 0]]]++[Blk.cells 1 [[IV.ptr s 0 0]],Blk.cells 1 [[IV.str [110,47]]],Blk.cells 1 [[IV.str [110,48]]]])=M:=⟨_,rfl⟩
 have kM:Keep none' L M:=by
  rw [<-eM]
  refine ⟨by simp,fun t ht _=>?_⟩
  simp only [List.append_assoc]
  rw [List.getElem?_append_left ht]
 have lM:M.length=t3+7:=by rw [<-eM,<-e3];simp
 have gq:∀k,M[t3+k]?=[Blk.cells 1 [[IV.str name]],Blk.cells 1 [[IV.int .i64 0]],Blk.cells 1 [[IV.bool false]],Blk.cells 1 [[IV.int .i64 0]],Blk.cells 1 [[IV.ptr s 0 0]],Blk.cells 1 [[IV.str [110,47]]],Blk.cells 1 [[IV.str [110,48]]]][k]?:=fun k=>by
  rw [<-eM,<-e3]
  simp only [List.append_assoc]
  rw [List.getElem?_append_right (by omega),Nat.add_sub_cancel_left]
  rfl
 have g3:M[t3]?=some (.cells 1 [[.str name]]):=gq 0
 have g4:M[t4]?=some (.cells 1 [[.int .i64 0]]):=by rw [n4];exact gq 1
 have g5:M[t5]?=some (.cells 1 [[.bool false]]):=by rw [n5];exact gq 2
 have g6:M[t6]?=some (.cells 1 [[.int .i64 0]]):=by rw [n6];exact gq 3
 have gB0:M[B]?=some (.cells 1 [[.ptr s 0 0]]):=by rw [nB];exact gq 4
 have gB1:M[B+1]?=some (.cells 1 [[.str [110,47]]]):=by rw [nB];exact gq 5
 have gB2:M[B+2]?=some (.cells 1 [[.str [110,48]]]):=by rw [nB];exact gq 6
 rw [eM]
 refine z0L (fun ρ=>ρ 3=.ptr t3 0 0/\ρ 4=.ptr t4 0 0/\ρ 5=.ptr t5 0 0/\ρ 6=.ptr t6 0 0/\ρ 13=.fn (.func 169) [] [.ptr B 0 0,.ptr (B+1) 0 0,.ptr (B+2) 0 0]) ⟨by simp (maxDischargeDepth:=12) only [go_sem,Nat.reduceEqDiff,reduceIte],by simp (maxDischargeDepth:=12) only [go_sem,Nat.reduceEqDiff,reduceIte],by simp (maxDischargeDepth:=12) only [go_sem,Nat.reduceEqDiff,reduceIte],by simp (maxDischargeDepth:=12) only [go_sem,Nat.reduceEqDiff,reduceIte],by simp (maxDischargeDepth:=12) only [go_sem,Nat.reduceEqDiff,reduceIte]<;>rfl⟩ ?_
 clear h0 h1
 rintro ρ1 ⟨h3,h4,h5,h6,h13⟩
 refine z4Z (gf:=169) (caps:=[.ptr B 0 0,.ptr (B+1) 0 0,.ptr (B+2) 0 0]) h13 ?_
 intro r0 a1 a2 a3
 obtain ⟨yb,eyb⟩:∃yb,M.length=yb:=⟨_,rfl⟩
 obtain ⟨l,el⟩:∃l,(List.range 23).map ρ1=l:=⟨_,rfl⟩
 obtain ⟨L2,eL2⟩:∃L2,M++[Blk.lp r0 l]=L2:=⟨_,rfl⟩
 rw [eyb,el,eL2]
 have k2:Keep none' M L2:=by rw [<-eL2];exact Keep.app Keep.refl
 have l2:L2.length=t3+8:=by rw [<-eL2];simp [lM]
 have gy:L2[yb]?=some (.lp r0 l):=by rw [<-eL2,<-eyb];simp
 have hS2:zt L2 s F N fence d:=(h.keep kM fun _ _ h=>h).keep k2 fun _ _ h=>h
 have hll:l.length=23:=by rw [<-el];simp
 obtain ⟨ps,hps0⟩:∃ps,d.scan [110,47] [110,48]=ps:=⟨_,rfl⟩
 have hsl:ps.length<=900000:=by rw [<-hps0];exact Nat.le_trans (Nat.le_trans (List.takeWhile_sublist _).length_le (by simp)) hN
 rw [hps0]
 refine XT.mono (z3v (E:=E.noPan.withY 23 [14,15] q32a q32b) hP (k2.get gB0 fun h=>h) (k2.get gB1 fun h=>h) (k2.get gB2 fun h=>h) hS2 hN (Inv:=NInv yb t3 t4 t5 t6 (.lp r0 l) name ps) (Stop:=zgJ L2 yb t3 t4 t5 t6 r0 l name ps) (G0:=fun t=>t=yb\/t=t3\/t=t4\/t=t5\/t=t6) ?_ ?_ ?_ ?_) ?_
 ·exact ⟨gy,k2.get g3 fun h=>h,k2.get g4 fun h=>h,k2.get g5 fun h=>h,k2.get g6 fun h=>h,fun j p hj=>by omega,rfl⟩
 ·rintro i G H LA LB ⟨i1,i2,i3,i4,i5,i6,rfl⟩ hk hn
  exact ⟨hk.get i1 (hn _ (.inl rfl)),hk.get i2 (hn _ (.inr (.inl rfl))),hk.get i3 (hn _ (.inr (.inr (.inl rfl)))),hk.get i4 (hn _ (.inr (.inr (.inr (.inl rfl))))),hk.get i5 (hn _ (.inr (.inr (.inr (.inr rfl))))),i6,rfl⟩
 ·rintro i G LA ⟨i1,i2,i3,i4,i5,i6,rfl⟩ t ht
  rcases ht with rfl | rfl | rfl | rfl | rfl
  ·exact zf i1
  ·exact zf i2
  ·exact zf i3
  ·exact zf i4
  ·exact zf i5
 ·rw [hps0]
  rintro i G LA p hp ⟨i1,i2,i3,i4,i5,i6,rfl⟩ hkA hgA
  refine ⟨r0,l,i1,a1,a2,a3,rfl,by decide,by rfl,by rfl,hll,?_⟩
  have hps:vT l [14,15] [.str p.1,.str p.2]=(l.set 14 (.str p.1)).set 15 (.str p.2):=rfl
  have q15:y9 (vT l [14,15] [.str p.1,.str p.2]) 15=.str p.2:=by rw [hps,yS (by rw [lls];omega),if_pos rfl]
  have q14:y9 (vT l [14,15] [.str p.1,.str p.2]) 14=.str p.1:=by rw [hps,yS (by rw [lls];omega),if_neg (by decide),yS (by omega),if_pos rfl]
  have qn:∀n,n<14->y9 (vT l [14,15] [.str p.1,.str p.2]) n=ρ1 n:=fun n hn=>by rw [hps,yS (by rw [lls];omega),if_neg (by omega),yS (by omega),if_neg (by omega),<-el,z3A (by omega)]
  have q3:=(qn 3 (by omega)).trans h3
  have q4:=(qn 4 (by omega)).trans h4
  have q5:=(qn 5 (by omega)).trans h5
  have q6:=(qn 6 (by omega)).trans h6
  generalize y9 (vT l [14,15] _)=ρ2 at *
  unfold q32a
  simp (maxDischargeDepth:=12) only [q15,go_sem]
  refine ⟨i1,?_⟩
  have m3:=zo i1 i2 (by simp)
  have m4:=zo i1 i3 (by simp)
  have m5:=zo i1 i4 (by simp)
  have m6:=zo i1 i5 (by simp)
  have my4:(t4=yb)=False:=eq_false fun h=>of_eq_false m4 h.symm
  have my5:(t5=yb)=False:=eq_false fun h=>of_eq_false m5 h.symm
  have my6:(t6=yb)=False:=eq_false fun h=>of_eq_false m6 h.symm
  obtain ⟨lpB,elpB⟩:∃b,Blk.lp { state:=LoopState.busy,pending:=r0.pending,fn:=r0.fn,tmps:=r0.tmps,params:=r0.params,assign:=r0.assign,body:=r0.body,defers:=r0.defers } l=b:=⟨_,rfl⟩
  rw [elpB]
  obtain ⟨LB,eLB⟩:∃LB,LA.set yb lpB=LB:=⟨_,rfl⟩
  have kAB:Keep (fun t=>t=yb) LA LB:=by rw [<-eLB];exact Keep.set Keep.refl fun _=>rfl
  have lAB:LB.length=LA.length:=by rw [<-eLB,lls]
  have b1:LB[yb]?=some lpB:=by rw [<-eLB,List.getElem?_set_self (zf i1)]
  have b3:=kAB.get i2 fun h=>of_eq_false m3 h.symm
  have b4:=kAB.get i3 fun h=>of_eq_false m4 h.symm
  have b5:=kAB.get i4 fun h=>of_eq_false m5 h.symm
  have b6:=kAB.get i5 fun h=>of_eq_false m6 h.symm
  have hil:i<ps.length:=zf hp
  have l1:=zg b1
  have l3:=zg b3
  have l4:=zg b4
  have l5:=zg b5
  have l6:=zg b6
  have m45:(t4=t5)=False:=eq_false (by omega)
  have m54:(t5=t4)=False:=eq_false (by omega)
  rw [eLB]
  unfold q32b
  by_cases hnm:p.2=name
  ·have f1:(p.2=name)=True:=eq_true hnm
   simp (maxDischargeDepth:=12) only [q3,q4,q5,q6,b1,b3,b4,b5,b6,f1,my4,my5,m45,yEnd,go_sem,Nat.reduceEqDiff,reduceIte]
   right
   have hkL:Keep (fun t=>t=yb\/t=t3\/t=t4\/t=t5\/t=t6) L2 LA:=hkA
   refine ⟨i,hil,zaZ hp hnm i6,?_,?_,?_,?_⟩
   ·rw [List.getElem?_set_self (by simp [lls];exact zf b1)]
   ·rw [List.getElem?_set_ne (fun h=>of_eq_false m4 h),List.getElem?_set_ne (by omega),List.getElem?_set_self (zf b4)]
   ·rw [List.getElem?_set_ne (fun h=>of_eq_false m5 h),List.getElem?_set_self (by simp [lls];exact zf b5)]
   ·exact Keep.set (Keep.set (Keep.set (hkL.trans kAB fun t _ h=>.inl h) fun _=>.inr (.inr (.inl rfl))) fun _=>.inr (.inr (.inr (.inl rfl)))) fun _=>.inl rfl
  ·have f1:(p.2=name)=False:=eq_false hnm
   have w1:IntKind.i64.wrap ((i:Int)+1)=((i+1:Nat):Int):=by rw [wrap64 (by omega) (by omega)];rfl
   simp (maxDischargeDepth:=12) only [q3,q6,b1,b3,b6,f1,w1,my6,yEnd,go_sem,Nat.reduceEqDiff,reduceIte]
   left
   refine ⟨_,⟨?_,?_,?_,?_,?_,?_,rfl⟩,fun t ht=>.inl ht,?_⟩
   ·rw [List.getElem?_set_self (by simp [lls];exact zf b1)]
   ·rw [List.getElem?_set_ne (fun h=>of_eq_false m3 h),List.getElem?_set_ne (by omega)];exact b3
   ·rw [List.getElem?_set_ne (fun h=>of_eq_false m4 h),List.getElem?_set_ne (by omega)];exact b4
   ·rw [List.getElem?_set_ne (fun h=>of_eq_false m5 h),List.getElem?_set_ne (by omega)];exact b5
   ·rw [List.getElem?_set_ne (fun h=>of_eq_false m6 h),List.getElem?_set_self (zf b6)]
   ·intro j q hj hq
    by_cases hji:j<i
    ·exact i6 j q hji hq
    ·have:j=i:=by omega
     subst this
     rw [hp] at hq
     cases hq
     exact hnm
   ·exact Keep.set (Keep.set (kAB.mono fun t _ h=>.inl h) fun _=>.inr (.inr (.inr (.inr rfl)))) fun _=>.inl rfl
 ·rw [hps0]
  have hyl:t3+7=yb:=by rw [<-eyb,lM]
  have kL2:Keep none' L L2:=kM.trans k2 fun _ _ h=>h
  rintro r L' (⟨G',⟨i1,i2,i3,i4,i5,i6,rfl⟩,hg3,hk3⟩ | ⟨i,hi,hv,i1,i3,i4,hk3⟩)
  ·refine ⟨_,i1,(by rw [a1];simp),?_⟩
   rw [a2]
   have m4:=zo i1 i3 (by simp)
   have m5:=zo i1 i4 (by simp)
   have m6:=zo i1 i5 (by simp)
   have l4:=zg i3
   have l5:=zg i4
   have l6:=zg i5
   have m45:(t4=t5)=False:=eq_false (by omega)
   have m54:(t5=t4)=False:=eq_false (by omega)
   have hv:=zaF i6
   have hd:decide (jX ps name<ps.length)=false:=decide_eq_false (by omega)
   rw [hv]
   have hd2:decide (ps.length<ps.length)=false:=decide_eq_false (by omega)
   simp (maxDischargeDepth:=12) only [h4,h5,h6,i3,i4,i5,l4,l5,m4,m5,m6,m45,m54,hd2,Y4,Yt,ZO,go_sem,Nat.reduceEqDiff,reduceIte]
   refine ⟨rfl,Keep.set (Keep.set (Keep.set (kL2.trans hk3 fun t ht h=>by omega) fun h=>by omega) fun h=>by omega) fun h=>by omega⟩
  ·refine ⟨_,i1,by simp,?_⟩
   have m4:=zo i1 i3 (by simp)
   have m5:=zo i1 i4 (by simp)
   have l4:=zg i3
   have l5:=zg i4
   have hd:decide (i<ps.length)=true:=decide_eq_true hi
   rw [hv]
   simp (maxDischargeDepth:=12) only [h4,h5,i3,i4,m4,m5,hd,Y4,Yt,ZO,go_sem]
   exact ⟨rfl,Keep.set (kL2.trans hk3 fun t ht h=>by omega) fun h=>by omega⟩
theorem z6F (hP:E.P=Tryz.prog) {x s N:Nat} {F:Nat->Prop} {fence:Int} {d:KV} {name:List UInt8} (hx:L[x]?=some (exB s)) (h:zt L s F N fence d) (hN:d.length<=900000) :
  XT E 32 [.ptr x 0 0,.str name] L fun r L'=>r=.tup [.int .i64 (jX (d.scan [110,47] [110,48]) name),.bool (decide (jX (d.scan [110,47] [110,48]) name<(d.scan [110,47] [110,48]).length))]/\L'=L:=by
 refine Z7 (z6w hP hx h hN) ?_
 rintro r L' ⟨rfl,hk⟩
 exact ⟨hk,_,rfl,rfl⟩
end
end Go.X.TryzW
end
section
open Go Go.X Go.Proofs
set_option maxRecDepth 100000
set_option maxHeartbeats 4000000
namespace Go.X.TryzW
def q103 : XC :=(sO [oM 6 1,oY 7 6,oI 8 0] (.block 0 (.loop (sO [oB 9 .lss 8 7] (.seq (cT 9 .skip (.exit 0)) (.seq (.block 1 (sO [oO 10 (.idxS 1 (.t 6) (.t 8)),oL 11 10,oM 5 11] (.ops [oM 12 0,oM 13 5,oC 14 106 [.t 12,.t 13]]))) (.ops [oK 15 .add 8 1,oM 8 15])))))))
def q105 : XC :=(sO [oM 7 0,oF 8 0 1,oL 9 8,oF 10 1 1,oL 11 10,oF 12 2 1,oL 13 12,oF 14 3 1,oL 15 14,oO 16 (.bslice 1 [(.str [])] 4 [(0,(.t 9)),(1,(.t 11)),(2,(.t 13)),(3,(.t 15))]),oC 17 103 [.t 7,.t 16]] (sO [oM 18 0,oF 19 4 1,oL 20 19,oC 21 102 [.t 18,.t 20,(oi 0),(oi 4)]] (sO [oM 22 0,oF 23 5 1,oL 24 23,oC 25 106 [.t 22,.t 24]] (sO [oM 26 0,oF 27 6 1,oL 28 27,oY 29 28,oC 30 107 [.t 26,.t 29]] (.seq (sO [oF 31 6 1,oL 32 31,oY 33 32,oI 34 0] (.block 0 (.loop (sO [oB 35 .lss 34 33] (.seq (cT 35 .skip (.exit 0)) (.seq (.block 1 (sO [oO 36 (.idxS 3 (.t 32) (.t 34)),oO 37 (.loadN 3 (.t 36)),oO 4 (.alloc [(.int .i64 0),(.int .i64 0),(.str [])]),oU (.store 3 (.t 4) (.t 37))] (sO [oM 38 0,oF 39 0 4,oL 40 39,oC 41 102 [.t 38,.t 40,(oi 0),(oi 4)]] (sO [oM 42 0,oF 43 1 4,oL 44 43,oC 45 107 [.t 42,.t 44]] (.ops [oM 46 0,oF 47 2 4,oL 48 47,oC 49 106 [.t 46,.t 48]]))))) (.ops [oK 50 .add 34 1,oM 34 50]))))))) (sO [oM 51 0,oF 52 7 1,oL 53 52,oY 54 53,oC 55 107 [.t 51,.t 54]] (.seq (sO [oF 56 7 1,oL 57 56,oY 58 57,oI 59 0] (.block 2 (.loop (sO [oB 60 .lss 59 58] (.seq (cT 60 .skip (.exit 2)) (.seq (.block 3 (sO [oO 61 (.idxS 2 (.t 57) (.t 59)),oO 62 (.loadN 2 (.t 61)),oO 6 (.alloc [(.str []),(.str [])]),oU (.store 2 (.t 6) (.t 62))] (.ops [oM 63 0,oF 64 0 6,oL 65 64,oF 66 1 6,oL 67 66,oO 68 (.bslice 1 [(.str [])] 2 [(0,(.t 65)),(1,(.t 67))]),oC 69 103 [.t 63,.t 68]]))) (.ops [oK 70 .add 59 1,oM 59 70]))))))) (.ops [oM 71 0,oF 72 8 1,oL 73 72,oC 74 107 [.t 71,.t 73]]))))))))
def q43 : XC :=(sO [oO 1 (.box (.t 0)),oV 2 .nsl,oI 3 0] (sO [oO 4 (.mkfn (.func 105) [] [.t 1]),oC 5 100 [.t 4],oX 6 0 5,oX 7 1 5,oM 2 6,oM 3 7] .ret))
section
variable {E:Env} {ρ:Rho} {L:List Blk} {K:IV->List Blk->Prop}
def yg (L1 L:List Blk) (p:Nat) (bs:List (List IV)):Prop:=∃F,yJ L p F bs/\Grown (fun t=>t=p) F L1 L/\Keep (fun t=>t=p) L1 L
theorem yg.get {L1:List Blk} {p t:Nat} {bs:List (List IV)} {k:Blk} (h:yg L1 L p bs) (hk:L1[t]?=some k) (hn:¬t=p):L[t]?=some k:=by
 obtain ⟨F,_,_,h⟩:=h
 exact h.get hk hn
theorem yg.app {L1:List Blk} {p:Nat} {bs:List (List IV)} {k:Blk} (h:yg L1 L p bs):yg L1 (L++[k]) p bs:=by
 obtain ⟨F,h1,h2,h3⟩:=h
 refine ⟨F,h1.keep (G:=none') (Keep.app Keep.refl) fun _ _ h=>h,fun t ht=>?_,Keep.app h3⟩
 rcases h2 t ht with h | h
 ·exact .inl h
 ·right;simp only [lla,llc,lln];omega
theorem yg.step {L1 L':List Blk} {p:Nat} {bs':List (List IV)} {F F':Nat->Prop} (h2:Grown (fun t=>t=p) F L1 L) (h3:Keep (fun t=>t=p) L1 L) (h:yJ L' p F' bs') (hg:Grown F F' L L') (hk:Keep F L L'):yg L1 L' p bs':=by
 refine ⟨F',h,h2.trans hg h3.1 hk.1,h3.trans hk fun t ht hF=>?_⟩
 rcases h2 t hF with h | h
 ·exact h
 ·omega
theorem z5R (hP:E.P=Tryz.prog) {p g:Nat} {l:List (List UInt8)} {F:Nat->Prop} {bs:List (List IV)} (h:yJ L p F bs) (hg:L[g]?=some (.cells 1 (l.map fun s=>[.str s]))) (hgF:¬F g) (hl:l.length<=1000) (hs:∀s∈l,s.length<=100000) (hN:bs.length+1000000000<=70368744177664) :
  XT E 103 [.ptr p 0 0,.sl g 0 l.length l.length] L fun r L'=>r=.tup []/\(∃F',yJ L' p F' (bs++l.flatMap txtR)/\Grown F F' L L')/\Keep F L L':=by
 have lg:=zg hg
 refine xt2 (fn:=Tryz.f103) (rs:=[]) (c:=q103) hP fun ρ h0 h1=>?_
 unfold q103
 simp only [h1,go_sem,reduceIte]
 refine zT (fun n ρ L3=>∃i:Nat,i<=l.length/\n=l.length - i/\ρ 0=.ptr p 0 0/\ρ 6=.sl g 0 l.length l.length/\ρ 7=.int .i64 l.length/\ρ 8=.int .i64 i/\∃F',yJ L3 p F' (bs++(l.take i).flatMap txtR)/\Grown F F' L L3/\Keep F L L3)
  ⟨0,Nat.zero_le _,rfl,by simp only [h0,go_sem,Nat.reduceEqDiff,reduceIte],by simp only [go_sem,Nat.reduceEqDiff,reduceIte],by simp only [go_sem,Nat.reduceEqDiff,reduceIte],by simp only [go_sem,Nat.reduceEqDiff,reduceIte]<;>rfl,F,by simpa using h,Grown.refl,Keep.refl⟩ ?_
 clear h0 h1 ρ
 rintro n ρ L3 ⟨i,hi,rfl,h0,h6,h7,h8,F3,hP3,hG3,hK3⟩
 have hg3:=hK3.get hg hgF
 have lg3:=zg hg3
 by_cases hc:i<l.length
 ·have e1:((i:Int)<(l.length:Int))=True:=eq_true (by omega)
  have e0:((0:Int)<=(i:Int))=True:=eq_true (by omega)
  obtain ⟨o,hoe⟩:∃o,o=l[i]:=⟨_,rfl⟩
  have hog:l[i]?=some o:=by rw [hoe];exact List.getElem?_eq_getElem hc
  have hom:o∈l:=List.mem_of_getElem? hog
  have hrl:(l.map fun s=>[IV.str s]).length=l.length:=by simp
  have hgg:(l.map fun s=>[IV.str s])[i]?=some [.str o]:=by simp [hog]
  have hgd:(l.map fun s=>[IV.str s]).getD i []=[.str o]:=by rw [List.getD_eq_getElem?_getD,hgg];rfl
  have hic:i<(l.map fun s=>[IV.str s]).length:=by omega
  have hw:IntKind.i64.wrap ((i:Int)+1)=((i+1:Nat):Int):=by rw [wrap64 (by omega) (by omega)];rfl
  have hfl:((l.take i).flatMap txtR).length<=i*100008:=by
   have:∀m:List (List UInt8),(∀s∈m,s.length<=100000)->(m.flatMap txtR).length<=m.length*100008:=fun m=>by
    induction m with
    | nil=>intro _;simp
    | cons a m ih=>
     intro hm
     have h1:=ih fun s hs=>hm s (List.mem_cons_of_mem _ hs)
     have h2:=zW a (by have:=hm a List.mem_cons_self;omega)
     have h3:=hm a List.mem_cons_self
     simp only [List.flatMap_cons,lla,llc,Nat.succ_mul]
     omega
   have h1:=this (l.take i) fun s h=>hs s (List.mem_of_mem_take h)
   have htl:(l.take i).length=i:=by simp;omega
   rwa [htl] at h1
  simp only [h0,h6,h7,h8,e1,e0,hg3,hgd,hic,Int.toNat_natCast,go_sem,Nat.reduceEqDiff,reduceIte]
  have ht:l.take (i+1)=l.take i++[o]:=by rw [List.take_add_one,hog];rfl
  refine zh (z1t (E:=E.noPan) hP hP3 (by have:=hs o hom;omega) (by rw [lla];omega)) ?_
  rintro r L4 ⟨rfl,⟨F4,hP4,hG4⟩,hK4⟩
  simp only [h0,h6,h7,h8,hw,go_sem,Nat.reduceEqDiff,reduceIte]
  refine ⟨l.length - (i+1),by omega,i+1,by omega,rfl,rfl,F4,?_,hG3.trans hG4 hK3.1 hK4.1,hK3.trans hK4 fun t htl h=>?_⟩
  ·have e5:bs++(l.take (i+1)).flatMap txtR=bs++(l.take i).flatMap txtR++txtR o:=by rw [ht,List.flatMap_append];simp
   rw [e5];exact hP4
  ·rcases hG3 t h with h | h
   ·exact h
   ·omega
 ·have e1:((i:Int)<(l.length:Int))=False:=eq_false (by omega)
  simp only [h7,h8,e1,go_sem,reduceIte]
  have hil:i=l.length:=by omega
  subst hil
  rw [List.take_length] at hP3
  exact ⟨⟨F3,hP3,hG3⟩,hK3⟩
structure StV where
 dfn:List UInt8
 id:List UInt8
 par:List UInt8
 pn:List UInt8
 st:Nat
 txt:List UInt8
 ev:Nat
def StV.cellsW (s:StV) (v w:IV):List IV:=[.str s.dfn,.str s.id,.str s.par,.str s.pn,.int .i64 s.st,.str s.txt,v,w,.int .i64 s.ev]
def StV.cells (s:StV):List IV:=[.str s.dfn,.str s.id,.str s.par,.str s.pn,.int .i64 s.st,.str s.txt,.nsl,.nsl,.int .i64 s.ev]
def StV.ok (s:StV):Prop:=s.dfn.length<=100000/\s.id.length<=100000/\s.par.length<=100000/\s.pn.length<=100000/\s.st<=4/\s.txt.length<=100000/\s.ev<=4503599627370496
def StV.bytes (s:StV):List (List IV):=[s.dfn,s.id,s.par,s.pn].flatMap txtR++numR s.st++txtR s.txt++numR 0++numR 0++numR s.ev
theorem z2l (hP:E.P=Tryz.prog) {b:Nat} {s:StV} {v w:IV} (hb:L[b]?=some (.cells 9 [s.cellsW v w])) (hv:lenOf v=some 0) (hw:lenOf w=some 0) (hs:s.ok):Writes E L 105 [.ptr b 0 0] s.bytes:=by
 intro L1 p hk hp hpen
 obtain ⟨o1,o2,o3,o4,o5,o6,o7⟩:=hs
 have hb1:=hk.get hb fun h=>h
 have lb1:=zg hb1
 have hbl:=zf hb
 unfold StV.cellsW at hb1
 refine xt2 (fn:=Tryz.f105) (rs:=[]) (c:=q105) hP fun ρ h0 h1=>?_
 unfold q105
 simp only [h0,h1,hb1,go_sem,Nat.reduceEqDiff,reduceIte,Nat.reduceAdd,Nat.reduceLT]
 have hpl:=hpen.lt
 have tl:=fun x (hx:List.length x<=100000)=>zW x (by omega)
 have t1:=tl s.dfn o1
 have t2:=tl s.id o2
 have t3:=tl s.par o3
 have t4:=tl s.pn o4
 have t5:=tl s.txt o6
 have nl:=fun x (hx:x<=4503599627370496)=>(show (numR x).length<=8 by have:=zF x;have:=Za (n:=x) (k:=7) (by omega);omega)
 have n1:=nl s.st (by omega)
 have n2:=nl s.ev o7
 have n0:=nl 0 (by omega)
 refine zh (z5R (E:=E.noPan) (l:=[s.dfn,s.id,s.par,s.pn]) (g:=L1.length) hP (hpen.keep (G:=none') (Keep.app Keep.refl) fun _ _ h=>h) (by simp only [go_sem]<;>rfl) (by omega) (by simp) (by intro x hx;simp only [List.mem_cons,List.not_mem_nil,or_false] at hx;rcases hx with rfl | rfl | rfl | rfl<;>assumption) (by simp)) ?_
 rintro r L2 ⟨rfl,⟨F2,hP2,hG2⟩,hK2⟩
 have h12:yg L1 L2 p (([s.dfn,s.id,s.par,s.pn]:List (List UInt8)).flatMap txtR):=by
  refine ⟨F2,by simpa using hP2,fun t ht=>?_,((Keep.app Keep.refl:Keep none' L1 _).mono (F':=fun t=>t=p) fun t _ h=>h.elim).trans hK2 fun t _ h=>h⟩
  rcases hG2 t ht with h | h
  ·exact .inl h
  ·right;simp only [lla,llc,lln] at h;omega
 have hl4:(([s.dfn,s.id,s.par,s.pn]:List (List UInt8)).flatMap txtR).length<=500000:=by simp;omega
 clear hP2 hG2 hK2
 have hbn:¬b=p:=by omega
 have hb2:=h12.get hb1 hbn
 have lb2:=zg hb2
 simp only [h0,h1,hb2,go_sem,Nat.reduceEqDiff,reduceIte,Nat.reduceAdd,Nat.reduceLT]
 obtain ⟨F2,hP2,hG2,hK2⟩:=h12
 refine zh (wQ (E:=E.noPan) (n:=s.st) hP hP2 (by omega) (by omega) (by omega) (by omega)) ?_
 rintro r L3 ⟨rfl,⟨F3,hP3,hG3⟩,hK3⟩
 have h13:=yg.step hG2 hK2 hP3 hG3 hK3
 have hb3:=h13.get hb1 hbn
 have lb3:=zg hb3
 obtain ⟨F3,hP3,hG3,hK3⟩:=h13
 simp only [h0,h1,hb3,go_sem,Nat.reduceEqDiff,reduceIte,Nat.reduceAdd,Nat.reduceLT]
 refine zh (z1t (E:=E.noPan) hP hP3 (by omega) (by simp only [lla];omega)) ?_
 rintro r L4 ⟨rfl,⟨F4,hP4,hG4⟩,hK4⟩
 have h14:=yg.step hG3 hK3 hP4 hG4 hK4
 have hb4:=h14.get hb1 hbn
 have lb4:=zg hb4
 obtain ⟨F4,hP4,hG4,hK4⟩:=h14
 simp only [h0,h1,hb4,zC hv,go_sem,Nat.reduceEqDiff,reduceIte,Nat.reduceAdd,Nat.reduceLT]
 refine zh (Yq (E:=E.noPan) (n:=0) hP hP4 (by omega) (by simp only [lla];omega)) ?_
 rintro r L5 ⟨rfl,⟨F5,hP5,hG5⟩,hK5⟩
 have h15:=yg.step hG4 hK4 hP5 hG5 hK5
 have hb5:=h15.get hb1 hbn
 have lb5:=zg hb5
 simp only [h1,hb5,zC hv,go_sem,Nat.reduceEqDiff,reduceIte,Nat.reduceAdd,Nat.reduceLT]
 refine zT (fun n ρ L6=>n=0/\L6=L5/\ρ 0=.ptr p 0 0/\ρ 1=.ptr b 0 0/\ρ 33=.int .i64 0/\ρ 34=.int .i64 0) ⟨rfl,rfl,by simp only [h0,go_sem,Nat.reduceEqDiff,reduceIte],by simp only [h1,go_sem,Nat.reduceEqDiff,reduceIte],by simp only [go_sem,Nat.reduceEqDiff,reduceIte]<;>rfl,by simp only [go_sem,Nat.reduceEqDiff,reduceIte]⟩ ?_
 clear h0 h1 ρ
 rintro n ρ L6 ⟨rfl,rfl,h0,h1,h33,h34⟩
 simp only [h0,h1,h33,h34,hb5,zC hw,go_sem,Nat.reduceEqDiff,reduceIte,Int.reduceLT,Nat.reduceAdd,Nat.reduceLT]
 obtain ⟨F5,hP5,hG5,hK5⟩:=h15
 refine zh (Yq (E:=E.noPan) (n:=0) hP hP5 (by omega) (by simp only [lla];omega)) ?_
 rintro r L7 ⟨rfl,⟨F7,hP7,hG7⟩,hK7⟩
 have h17:=yg.step hG5 hK5 hP7 hG7 hK7
 have hb7:=h17.get hb1 hbn
 have lb7:=zg hb7
 simp only [h1,hb7,zC hw,go_sem,Nat.reduceEqDiff,reduceIte,Int.reduceLT,Nat.reduceAdd,Nat.reduceLT]
 refine zT (fun n ρ L6=>n=0/\L6=L7/\ρ 0=.ptr p 0 0/\ρ 1=.ptr b 0 0/\ρ 58=.int .i64 0/\ρ 59=.int .i64 0) ⟨rfl,rfl,by simp only [h0,go_sem,Nat.reduceEqDiff,reduceIte],by simp only [h1,go_sem,Nat.reduceEqDiff,reduceIte],by simp only [go_sem,Nat.reduceEqDiff,reduceIte]<;>rfl,by simp only [go_sem,Nat.reduceEqDiff,reduceIte]⟩ ?_
 clear h0 h1 h33 h34 ρ
 rintro n ρ L6 ⟨rfl,rfl,h0,h1,h58,h59⟩
 simp only [h0,h1,h58,h59,hb7,go_sem,Nat.reduceEqDiff,reduceIte,Int.reduceLT,Nat.reduceAdd,Nat.reduceLT]
 obtain ⟨F7,hP7,hG7,hK7⟩:=h17
 refine zh (Yq (E:=E.noPan) (n:=s.ev) hP hP7 (by omega) (by simp only [lla];omega)) ?_
 rintro r L8 ⟨rfl,⟨F8,hP8,hG8⟩,hK8⟩
 obtain ⟨F8,hP8,hG8,hK8⟩:=yg.step hG7 hK7 hP8 hG8 hK8
 simp only [go_sem,Int.reduceLT]
 exact ⟨⟨F8,hP8,hG8⟩,hK8⟩
theorem StV.bytes_ne (s:StV):s.bytes≠[]:=by simp [StV.bytes,numR]
theorem StV.bytes_byte (s:StV):zx s.bytes:=by
 have ht:∀x,zx (txtR x):=fun x=>(zH _).app (Zh _)
 unfold StV.bytes
 refine ((((zx.app ?_ (zH _)).app (ht _)).app (zH _)).app (zH _)).app (zH _)
 intro r hr
 obtain ⟨x,_,hx⟩:=List.mem_flatMap.1 hr
 exact ht x r hx
theorem z5a (hP:E.P=Tryz.prog) {s:StV} {v w:IV} (hv:lenOf v=some 0) (hw:lenOf w=some 0) (hs:s.ok):XT E 43 [.agg (s.cellsW v w)] L fun r L'=>r=.tup [.isl s.bytes,.int .i64 0]/\L'=L:=by
 refine Z7 (R:=fun r L'=>∃v,r=.tup [v,.int .i64 0]/\NewB L L' v s.bytes/\Keep none' L L') ?_ ?_
 ·skip
  refine xt1 (fn:=Tryz.f43) (rs:=[.tmp 2,.tmp 3]) (c:=q43) hP fun ρ h0=>?_
  unfold q43
  have hce:cellsOf (.agg (s.cellsW v w))=s.cellsW v w:=rfl
  have hcl:(s.cellsW v w).length=9:=rfl
  simp only [h0,hce,hcl,go_sem,Nat.reduceEqDiff,reduceIte]
  refine zh (Y7 (E:=E.noPan) hP (z2l hP (b:=L.length) (s:=s) (v:=v) (w:=w) (by simp) hv hw hs) s.bytes_ne) ?_
  rintro r L' ⟨v,rfl,⟨g,rfl,hg,hb,hr⟩,hk⟩
  simp only [go_sem,Nat.reduceEqDiff,reduceIte,Nat.reduceAdd,Nat.reduceLT]
  exact ⟨_,rfl,⟨g,rfl,by simp at hg;omega,hb,hr⟩,Keep.trans (Keep.app Keep.refl) hk fun _ _ h=>h⟩
 ·rintro r L' ⟨v,rfl,hv,hk⟩
  exact ⟨hk,_,by simp only [fuel,conv,mapO,YB hv];rfl,rfl⟩
end
end Go.X.TryzW
end
section
open Go Go.X Go.Proofs
set_option maxRecDepth 100000
set_option maxHeartbeats 4000000
namespace Go.X.TryzW
def q132 : XC :=(sO [oO 2 (.alloc [(.str []),(.str []),(.str []),(.str []),(.int .i64 0),(.str []),.nsl,.nsl,(.int .i64 0)]),oI 3 0,oI 4 0] (sO [oM 5 0,oC 6 192 [.t 5,(.f 193)],oX 7 0 6,oX 8 1 6,oX 9 2 6,oU (.store 9 (.t 2) (.t 7)),oM 3 8,oM 4 9] .ret))
def q193 : XC :=(sO [oO 2 (.alloc [(.str []),(.str []),(.str []),(.str []),(.int .i64 0),(.str []),.nsl,.nsl,(.int .i64 0)])] (.seq (sO [oF 7 0 2,oF 8 1 2,oF 9 2 2,oF 10 3 2,oO 11 (.bslice 1 [(.raw (.pointer none))] 4 [(0,(.t 7)),(1,(.t 8)),(2,(.t 9)),(3,(.t 10))]),oY 12 11,oI 13 0] (.block 0 (.loop (sO [oB 14 .lss 13 12] (.seq (cT 14 .skip (.exit 0)) (.seq (.block 1 (sO [oO 15 (.idxS 1 (.t 11) (.t 13)),oL 16 15,oM 4 16] (.ops [oM 17 4,oM 18 0,oC 19 96 [.t 18],oN 20 17,oS 20 19]))) (.ops [oK 21 .add 13 1,oM 13 21]))))))) (sO [oM 22 0,oC 23 95 [.t 22,(oi 0),(oi 4)],oF 24 4 2,oS 24 23] (sO [oM 25 0,oC 26 96 [.t 25],oF 27 5 2,oS 27 26] (.seq (sO [oM 28 0,oC 29 147 [.t 28],oI 30 0] (.block 2 (.loop (sO [oB 31 .lss 30 29] (.seq (cT 31 .skip (.exit 2)) (.seq (.block 3 (sO [oO 5 (.alloc [(.int .i64 0),(.int .i64 0),(.str [])])] (sO [oM 32 0,oC 33 95 [.t 32,(oi 0),(oi 4)],oF 34 0 5,oS 34 33] (sO [oM 35 0,oC 36 147 [.t 35],oF 37 1 5,oS 37 36] (sO [oM 38 0,oC 39 96 [.t 38],oF 40 2 5,oS 40 39] (.ops [oF 41 6 2,oL 42 41,oO 43 (.loadN 3 (.t 5)),oO 44 (.bslice 3 [(.int .i64 0),(.int .i64 0),(.str [])] 1 [(0,(.t 43))]),oO 45 (.append 3 32 (.t 42) (.t 44)),oF 46 6 2,oS 46 45])))))) (.ops [oK 47 .add 30 1,oM 30 47]))))))) (.seq (sO [oM 48 0,oC 49 147 [.t 48],oI 50 0] (.block 4 (.loop (sO [oB 51 .lss 50 49] (.seq (cT 51 .skip (.exit 4)) (.seq (.block 5 (sO [oO 6 (.alloc [(.str []),(.str [])])] (sO [oM 52 0,oC 53 96 [.t 52],oF 54 0 6,oS 54 53] (sO [oM 55 0,oC 56 96 [.t 55],oF 57 1 6,oS 57 56] (.ops [oF 58 7 2,oL 59 58,oO 60 (.loadN 2 (.t 6)),oO 61 (.bslice 2 [(.str []),(.str [])] 1 [(0,(.t 60))]),oO 62 (.append 2 32 (.t 59) (.t 61)),oF 63 7 2,oS 63 62]))))) (.ops [oK 64 .add 50 1,oM 50 64]))))))) (sO [oM 65 0,oC 66 147 [.t 65],oF 67 8 2,oS 67 66] (sO [oO 68 (.loadN 9 (.t 2)),oU (.store 9 (.t 2) (.t 68))] .ret))))))))
section
variable {E:Env} {ρ:Rho} {L:List Blk} {K:IV->List Blk->Prop}
def wP (L1 L:List Blk) (p x:Nat) (bs:List (List IV)) (a N:Nat) (cs:List IV):Prop:=L[p]?=some (eyeB bs a)/\L[x]?=some (.cells N [cs])/\Keep (fun t=>t=p) L1 L/\L1.length<=x/\p<L1.length
theorem wP.next {L1:List Blk} {p x a N:Nat} {bs:List (List IV)} {cs:List IV} (h:wP L1 L p x bs a N cs) (a':Nat) (cs':List IV):wP L1 ((L.set p (eyeB bs a')).set x (.cells N [cs'])) p x bs a' N cs':=by
 obtain ⟨h1,h2,h3,h4,h5⟩:=h
 have hn:¬x=p:=by omega
 refine ⟨?_,?_,Keep.set (Keep.set h3 fun _=>rfl) fun h=>by omega,h4,h5⟩
 ·rw [List.getElem?_set_ne hn,List.getElem?_set_self (zf h1)]
 ·rw [List.getElem?_set_self (by rw [lls];exact zf h2)]
theorem wP.eye {L1:List Blk} {p x a N:Nat} {bs:List (List IV)} {cs:List IV} (h:wP L1 L p x bs a N cs) (a':Nat):wP L1 (L.set p (eyeB bs a')) p x bs a' N cs:=by
 obtain ⟨h1,h2,h3,h4,h5⟩:=h
 have hn:¬p=x:=by omega
 refine ⟨?_,?_,Keep.set h3 fun _=>rfl,h4,h5⟩
 ·rw [List.getElem?_set_self (zf h1)]
 ·rw [List.getElem?_set_ne hn];exact h2
theorem wP.app {L1:List Blk} {p x a N:Nat} {bs:List (List IV)} {cs:List IV} (h:wP L1 L p x bs a N cs) (b:Blk):wP L1 (L++[b]) p x bs a N cs:=by
 obtain ⟨h1,h2,h3,h4,h5⟩:=h
 exact ⟨Zl h1,Zl h2,Keep.app h3,h4,h5⟩
theorem Zj {A B bs:List (List IV)} {a:Nat} (h:bs=A++B) (ha:a=A.length):bs.drop a=B:=by subst h;subst ha;exact List.drop_left
def StV.zero:List IV:=[.str [],.str [],.str [],.str [],.int .i64 0,.str [],.nsl,.nsl,.int .i64 0]
theorem z4j (hP:E.P=Tryz.prog) {s:StV} (hs:s.ok):Reads E L 193 [] s.bytes none' fun r M=>r=.agg s.cells:=by
 intro L1 p hk hp hl he
 obtain ⟨o1,o2,o3,o4,o5,o6,o7⟩:=hs
 have tl:=fun x (hx:List.length x<=100000)=>zW x (by omega)
 have nl:=fun x (hx:x<=4503599627370496)=>(show (numR x).length<=8 by have:=zF x;have:=Za (n:=x) (k:=7) (by omega);omega)
 have t1:=tl s.dfn o1
 have t2:=tl s.id o2
 have t3:=tl s.par o3
 have t4:=tl s.pn o4
 have t5:=tl s.txt o6
 have n1:=nl s.st (by omega)
 have n2:=nl s.ev o7
 have n0:=nl 0 (by omega)
 have hbl:s.bytes.length<=1099511627776:=by simp only [StV.bytes,lla,List.flatMap_cons,List.flatMap_nil,lln];omega
 have hbb:=s.bytes_byte
 have e0:s.bytes=[]++(txtR s.dfn++(txtR s.id++txtR s.par++txtR s.pn++numR s.st++txtR s.txt++numR 0++numR 0++numR s.ev)):=by simp [StV.bytes]
 have e1:s.bytes=txtR s.dfn++(txtR s.id++(txtR s.par++txtR s.pn++numR s.st++txtR s.txt++numR 0++numR 0++numR s.ev)):=by simp [StV.bytes]
 have e2:s.bytes=(txtR s.dfn++txtR s.id)++(txtR s.par++(txtR s.pn++numR s.st++txtR s.txt++numR 0++numR 0++numR s.ev)):=by simp [StV.bytes]
 have e3:s.bytes=(txtR s.dfn++txtR s.id++txtR s.par)++(txtR s.pn++(numR s.st++txtR s.txt++numR 0++numR 0++numR s.ev)):=by simp [StV.bytes]
 have e4:s.bytes=(txtR s.dfn++txtR s.id++txtR s.par++txtR s.pn)++(numR s.st++(txtR s.txt++numR 0++numR 0++numR s.ev)):=by simp [StV.bytes]
 have e5:s.bytes=(txtR s.dfn++txtR s.id++txtR s.par++txtR s.pn++numR s.st)++(txtR s.txt++(numR 0++numR 0++numR s.ev)):=by simp [StV.bytes]
 have e6:s.bytes=(txtR s.dfn++txtR s.id++txtR s.par++txtR s.pn++numR s.st++txtR s.txt)++(numR 0++(numR 0++numR s.ev)):=by simp [StV.bytes]
 have e7:s.bytes=(txtR s.dfn++txtR s.id++txtR s.par++txtR s.pn++numR s.st++txtR s.txt++numR 0)++(numR 0++numR s.ev):=by simp [StV.bytes]
 have e8:s.bytes=(txtR s.dfn++txtR s.id++txtR s.par++txtR s.pn++numR s.st++txtR s.txt++numR 0++numR 0)++(numR s.ev++[]):=by simp [StV.bytes]
 have m1:=zF s.st
 have m2:=zF 0
 have m3:=zF s.ev
 generalize hbs:s.bytes=bs at *
 refine xt1 (fn:=Tryz.f193) (rs:=[.cellN 2 9]) (c:=q193) hP fun ρ h0=>?_
 unfold q193
 simp (maxDischargeDepth:=12) only [go_sem,Nat.reduceEqDiff,reduceIte,Nat.reduceAdd]
 obtain ⟨x,hx⟩:∃x,L1.length=x:=⟨_,rfl⟩
 obtain ⟨q,hq⟩:∃q,(L1++[Blk.cells 9 [StV.zero]]).length=q:=⟨_,rfl⟩
 have hqx:q=x+1:=by rw [<-hq,<-hx];simp
 obtain ⟨pb,hpb⟩:∃pb,Blk.cells 1 [[IV.ptr x 0 0],[IV.ptr x 0 1],[IV.ptr x 0 2],[IV.ptr x 0 3]]=pb:=⟨_,rfl⟩
 have st0:wP L1 (L1++[Blk.cells 9 [StV.zero]]++[pb]) p x bs 0 9 StV.zero:=⟨Zl (Zl he),by rw [<-hx];simp [],Keep.app (Keep.app Keep.refl),by omega,by omega⟩
 have hqg:(L1++[Blk.cells 9 [StV.zero]]++[pb])[q]?=some pb:=by rw [<-hq];simp []
 have ez:Blk.cells 9 [[IV.str [],IV.str [],IV.str [],IV.str [],IV.int IntKind.i64 0,IV.str [],IV.nsl,IV.nsl,IV.int IntKind.i64 0]]=Blk.cells 9 [StV.zero]:=rfl
 rw [ez,hx,hq,hpb]
 generalize L1++[Blk.cells 9 [StV.zero]]++[pb]=L2 at *
 have hpx:(p=x)=False:=eq_false (by omega)
 have hxp:(x=p)=False:=eq_false (by omega)
 have hpq:(p=q)=False:=eq_false (by omega)
 have hxq:(x=q)=False:=eq_false (by omega)
 refine zT (fun n ρ L3=>∃i a cs,n=4 - i/\ρ 0=.ptr p 0 0/\ρ 2=.ptr x 0 0/\ρ 11=.sl q 0 4 4/\ρ 12=.int .i64 4/\ρ 13=.int .i64 (i:Nat)/\wP L1 L3 p x bs a 9 cs/\L3[q]?=some pb/\((i=0/\a=0/\cs=[.str [],.str [],.str [],.str [],.int .i64 0,.str [],.nsl,.nsl,.int .i64 0])\/(i=1/\a=(txtR s.dfn).length/\cs=[.str s.dfn,.str [],.str [],.str [],.int .i64 0,.str [],.nsl,.nsl,.int .i64 0])\/(i=2/\a=(txtR s.dfn++txtR s.id).length/\cs=[.str s.dfn,.str s.id,.str [],.str [],.int .i64 0,.str [],.nsl,.nsl,.int .i64 0])\/(i=3/\a=(txtR s.dfn++txtR s.id++txtR s.par).length/\cs=[.str s.dfn,.str s.id,.str s.par,.str [],.int .i64 0,.str [],.nsl,.nsl,.int .i64 0])\/(i=4/\a=(txtR s.dfn++txtR s.id++txtR s.par++txtR s.pn).length/\cs=[.str s.dfn,.str s.id,.str s.par,.str s.pn,.int .i64 0,.str [],.nsl,.nsl,.int .i64 0])))
  ⟨0,0,_,rfl,by simp (maxDischargeDepth:=12) only [h0,go_sem,Nat.reduceEqDiff,reduceIte],by simp (maxDischargeDepth:=12) only [go_sem,Nat.reduceEqDiff,reduceIte],by simp (maxDischargeDepth:=12) only [go_sem,Nat.reduceEqDiff,reduceIte]<;>rfl,by simp (maxDischargeDepth:=12) only [go_sem,Nat.reduceEqDiff,reduceIte]<;>rfl,by simp (maxDischargeDepth:=12) only [go_sem,Nat.reduceEqDiff,reduceIte]<;>rfl,st0,hqg,.inl ⟨rfl,rfl,rfl⟩⟩ ?_
 clear h0 ρ st0 hqg
 rintro n ρ L3 ⟨i,a,cs,rfl,h0,h2,h11,h12,h13,st,hqg,hc⟩
 have gx:=st.2.1
 have lx:=zg gx
 have lp:=zg st.1
 have lq:=zg hqg
 rw [<-hpb] at hqg
 rcases hc with ⟨rfl,rfl,rfl⟩ | ⟨rfl,rfl,rfl⟩ | ⟨rfl,rfl,rfl⟩ | ⟨rfl,rfl,rfl⟩ | ⟨rfl,rfl,rfl⟩
 ·simp (maxDischargeDepth:=12) only [h0,h11,h12,h13,hqg,go_sem,Nat.reduceEqDiff,reduceIte,Int.reduceLT,Int.reduceLE,Nat.reduceAdd,Int.reduceToNat]
  refine zh (YP (E:=E.noPan) (s:=s.dfn) hP st.1 (Zj e0 rfl) hbb hbl (by omega)) ?_
  rintro r L4 ⟨rfl,rfl⟩
  simp (maxDischargeDepth:=12) only [wi64,h0,h2,h11,h12,h13,gx,hpx,go_sem,Nat.reduceEqDiff,reduceIte,Int.reduceLT,Int.reduceLE,Nat.reduceAdd,Nat.reduceLeDiff,Int.reduceToNat,Int.reduceAdd,Int.reduceNeg]
  refine ⟨3,by decide,1,_,_,rfl,rfl,st.next _ _,?_,.inr (.inl ⟨rfl,?_,rfl⟩)⟩
  ·rw [List.getElem?_set_ne (fun h=>of_eq_false hxq h),List.getElem?_set_ne (fun h=>of_eq_false hpq h),hqg,hpb]
  ·simp only []
 ·simp (maxDischargeDepth:=12) only [h0,h11,h12,h13,hqg,go_sem,Nat.reduceEqDiff,reduceIte,Int.reduceLT,Int.reduceLE,Nat.reduceAdd,Nat.reduceLT,Int.reduceToNat]
  refine zh (YP (E:=E.noPan) (s:=s.id) hP st.1 (Zj e1 rfl) hbb hbl (by omega)) ?_
  rintro r L4 ⟨rfl,rfl⟩
  simp (maxDischargeDepth:=12) only [wi64,h0,h2,h11,h12,h13,gx,hpx,go_sem,Nat.reduceEqDiff,reduceIte,Int.reduceLT,Int.reduceLE,Nat.reduceAdd,Nat.reduceLeDiff,Int.reduceToNat,Int.reduceAdd,Int.reduceNeg]
  refine ⟨2,by decide,2,_,_,rfl,rfl,st.next _ _,?_,.inr (.inr (.inl ⟨rfl,?_,rfl⟩))⟩
  ·rw [List.getElem?_set_ne (fun h=>of_eq_false hxq h),List.getElem?_set_ne (fun h=>of_eq_false hpq h),hqg,hpb]
  ·simp only [lla]
 ·simp (maxDischargeDepth:=12) only [h0,h11,h12,h13,hqg,go_sem,Nat.reduceEqDiff,reduceIte,Int.reduceLT,Int.reduceLE,Nat.reduceAdd,Nat.reduceLT,Int.reduceToNat]
  refine zh (YP (E:=E.noPan) (s:=s.par) hP st.1 (Zj e2 rfl) hbb hbl (by omega)) ?_
  rintro r L4 ⟨rfl,rfl⟩
  simp (maxDischargeDepth:=12) only [wi64,h0,h2,h11,h12,h13,gx,hpx,go_sem,Nat.reduceEqDiff,reduceIte,Int.reduceLT,Int.reduceLE,Nat.reduceAdd,Nat.reduceLeDiff,Int.reduceToNat,Int.reduceAdd,Int.reduceNeg]
  refine ⟨1,by decide,3,_,_,rfl,rfl,st.next _ _,?_,.inr (.inr (.inr (.inl ⟨rfl,?_,rfl⟩)))⟩
  ·rw [List.getElem?_set_ne (fun h=>of_eq_false hxq h),List.getElem?_set_ne (fun h=>of_eq_false hpq h),hqg,hpb]
  ·simp only [lla]
 ·simp (maxDischargeDepth:=12) only [h0,h11,h12,h13,hqg,go_sem,Nat.reduceEqDiff,reduceIte,Int.reduceLT,Int.reduceLE,Nat.reduceAdd,Nat.reduceLT,Int.reduceToNat]
  refine zh (YP (E:=E.noPan) (s:=s.pn) hP st.1 (Zj e3 rfl) hbb hbl (by omega)) ?_
  rintro r L4 ⟨rfl,rfl⟩
  simp (maxDischargeDepth:=12) only [wi64,h0,h2,h11,h12,h13,gx,hpx,go_sem,Nat.reduceEqDiff,reduceIte,Int.reduceLT,Int.reduceLE,Nat.reduceAdd,Nat.reduceLeDiff,Int.reduceToNat,Int.reduceAdd,Int.reduceNeg]
  refine ⟨0,by decide,4,_,_,rfl,rfl,st.next _ _,?_,.inr (.inr (.inr (.inr (⟨rfl,?_,rfl⟩))))⟩
  ·rw [List.getElem?_set_ne (fun h=>of_eq_false hxq h),List.getElem?_set_ne (fun h=>of_eq_false hpq h),hqg,hpb]
  ·simp only [lla]
 ·simp (maxDischargeDepth:=12) only [h0,h12,h13,go_sem,Nat.reduceEqDiff,reduceIte,Int.reduceLT]
  clear h11 h12 h13 hqg lq
  refine zh (wU (E:=E.noPan) (n:=s.st) hP st.1 (Zj e4 rfl) hbb hbl (by omega) (by omega) (by omega)) ?_
  rintro r L4 ⟨rfl,rfl⟩
  simp (maxDischargeDepth:=12) only [h0,h2,gx,hpx,go_sem,Nat.reduceEqDiff,reduceIte,Int.reduceLT,Nat.reduceAdd,Nat.reduceLeDiff]
  have st4:=st.next ((txtR s.dfn++txtR s.id++txtR s.par++txtR s.pn).length+(zl s.st+1)) [.str s.dfn,.str s.id,.str s.par,.str s.pn,.int .i64 s.st,.str [],.nsl,.nsl,.int .i64 0]
  obtain ⟨L4,hL4⟩:∃L4,(L3.set p (eyeB bs ((txtR s.dfn++txtR s.id++txtR s.par++txtR s.pn).length+(zl s.st+1)))).set x (.cells 9 [[.str s.dfn,.str s.id,.str s.par,.str s.pn,.int .i64 s.st,.str [],.nsl,.nsl,.int .i64 0]])=L4:=⟨_,rfl⟩
  rw [hL4] at st4 ⊢
  have g4:=st4.2.1
  have l4:=zg g4
  have p4:=zg st4.1
  refine zh (YP (E:=E.noPan) (s:=s.txt) hP st4.1 (Zj e5 (by simp only [lla];omega)) hbb hbl (by omega)) ?_
  rintro r L5 ⟨rfl,rfl⟩
  simp (maxDischargeDepth:=12) only [h0,h2,g4,hpx,go_sem,Nat.reduceEqDiff,reduceIte,Int.reduceLT,Nat.reduceAdd,Nat.reduceLeDiff]
  have st5:=st4.next ((txtR s.dfn++txtR s.id++txtR s.par++txtR s.pn).length+(zl s.st+1)+(txtR s.txt).length) [.str s.dfn,.str s.id,.str s.par,.str s.pn,.int .i64 s.st,.str s.txt,.nsl,.nsl,.int .i64 0]
  obtain ⟨L5,hL5⟩:∃L5,(L4.set p (eyeB bs ((txtR s.dfn++txtR s.id++txtR s.par++txtR s.pn).length+(zl s.st+1)+(txtR s.txt).length))).set x (.cells 9 [[.str s.dfn,.str s.id,.str s.par,.str s.pn,.int .i64 s.st,.str s.txt,.nsl,.nsl,.int .i64 0]])=L5:=⟨_,rfl⟩
  rw [hL5] at st5 ⊢
  refine zh (yK (E:=E.noPan) (n:=0) hP st5.1 (Zj e6 (by simp only [lla];omega)) hbb hbl (by omega)) ?_
  rintro r L6 ⟨rfl,rfl⟩
  simp (maxDischargeDepth:=12) only [go_sem,Int.reduceLT]
  have st6:=st5.eye ((txtR s.dfn++txtR s.id++txtR s.par++txtR s.pn).length+(zl s.st+1)+(txtR s.txt).length+(zl 0+1))
  obtain ⟨L6,hL6⟩:∃L6,L5.set p (eyeB bs ((txtR s.dfn++txtR s.id++txtR s.par++txtR s.pn).length+(zl s.st+1)+(txtR s.txt).length+(zl 0+1)))=L6:=⟨_,rfl⟩
  rw [hL6] at st6 ⊢
  refine zT (fun n ρ L=>n=0/\L=L6/\ρ 0=.ptr p 0 0/\ρ 2=.ptr x 0 0/\ρ 29=.int .i64 0/\ρ 30=.int .i64 0) ⟨rfl,rfl,by simp (maxDischargeDepth:=12) only [h0,go_sem,Nat.reduceEqDiff,reduceIte],by simp (maxDischargeDepth:=12) only [h2,go_sem,Nat.reduceEqDiff,reduceIte],by simp (maxDischargeDepth:=12) only [go_sem,Nat.reduceEqDiff,reduceIte]<;>rfl,by simp (maxDischargeDepth:=12) only [go_sem,Nat.reduceEqDiff,reduceIte]⟩ ?_
  clear h0 h2 ρ
  rintro n ρ L6 ⟨rfl,rfl,h0,h2,h29,h30⟩
  simp (maxDischargeDepth:=12) only [h0,h29,h30,go_sem,Nat.reduceEqDiff,reduceIte,Int.reduceLT]
  refine zh (yK (E:=E.noPan) (n:=0) hP st6.1 (Zj e7 (by simp only [lla];omega)) hbb hbl (by omega)) ?_
  rintro r L7 ⟨rfl,rfl⟩
  simp (maxDischargeDepth:=12) only [go_sem,Int.reduceLT]
  have st7:=st6.eye ((txtR s.dfn++txtR s.id++txtR s.par++txtR s.pn).length+(zl s.st+1)+(txtR s.txt).length+(zl 0+1)+(zl 0+1))
  obtain ⟨L7,hL7⟩:∃L7,L6.set p (eyeB bs ((txtR s.dfn++txtR s.id++txtR s.par++txtR s.pn).length+(zl s.st+1)+(txtR s.txt).length+(zl 0+1)+(zl 0+1)))=L7:=⟨_,rfl⟩
  rw [hL7] at st7 ⊢
  refine zT (fun n ρ L=>n=0/\L=L7/\ρ 0=.ptr p 0 0/\ρ 2=.ptr x 0 0/\ρ 49=.int .i64 0/\ρ 50=.int .i64 0) ⟨rfl,rfl,by simp (maxDischargeDepth:=12) only [h0,go_sem,Nat.reduceEqDiff,reduceIte],by simp (maxDischargeDepth:=12) only [h2,go_sem,Nat.reduceEqDiff,reduceIte],by simp (maxDischargeDepth:=12) only [go_sem,Nat.reduceEqDiff,reduceIte]<;>rfl,by simp (maxDischargeDepth:=12) only [go_sem,Nat.reduceEqDiff,reduceIte]⟩ ?_
  clear h0 h2 h29 h30 ρ
  rintro n ρ L7 ⟨rfl,rfl,h0,h2,h49,h50⟩
  simp (maxDischargeDepth:=12) only [h0,h49,h50,go_sem,Nat.reduceEqDiff,reduceIte,Int.reduceLT]
  have g7:=st7.2.1
  have l7:=zg g7
  have p7:=zg st7.1
  refine zh (yK (E:=E.noPan) (n:=s.ev) hP st7.1 (Zj e8 (by simp only [lla];omega)) hbb hbl (by omega)) ?_
  rintro r L8 ⟨rfl,rfl⟩
  simp (maxDischargeDepth:=12) only [h2,g7,l7,hpx,hxp,p7,Y4,Zw,ZO,go_sem,Nat.reduceEqDiff,reduceIte,Int.reduceLT,Nat.reduceAdd]
  have hlb:(txtR s.dfn++txtR s.id++txtR s.par++txtR s.pn).length+(zl s.st+1)+(txtR s.txt).length+(zl 0+1)+(zl 0+1)+(zl s.ev+1)=bs.length:=by rw [e8];simp only [lla,lln];omega
  rw [hlb]
  exact ⟨rfl,rfl,Keep.set (Keep.set (Keep.set (st7.2.2.1.mono fun t _ h=>.inl h) fun _=>.inl rfl) fun h=>by omega) fun h=>by omega⟩
def StV.icells (s:StV):List IV:=[.str s.dfn,.str s.id,.str s.par,.str s.pn,.int .i64 s.st,.str s.txt,.isl [],.isl [],.int .i64 s.ev]
theorem z0x (hP:E.P=Tryz.prog) {s:StV} (hs:s.ok):zI E 132 [.isl s.bytes] (.tup [.agg s.icells,.int .i64 0,.int .i64 0]):=by
 refine Z7 (R:=fun r L'=>r=.tup [.agg s.cells,.int .i64 0,.int .i64 0]/\Keep none' [] L') ?_ ?_
 ·skip
  refine xt1 (fn:=Tryz.f132) (rs:=[.cellN 2 9,.tmp 3,.tmp 4]) (c:=q132) hP fun ρ h0=>?_
  unfold q132
  simp only [h0,go_sem,Nat.reduceEqDiff,reduceIte,Nat.reduceAdd]
  refine zh (z7h (E:=E.noPan) hP (z4j hP hs) (fun r M M' _ h=>h) (fun _ h=>h.elim) (fun r M h=>⟨_,h,rfl,rfl⟩)) ?_
  rintro r L2 ⟨v,rfl,rfl,hk⟩
  have hb:=hk.get (t:=0) (k:=Blk.cells 9 [StV.zero]) rfl (fun h=>h)
  have lb:=zg hb
  have hce:cellsOf (.agg s.cells)=s.cells:=rfl
  have hcl:s.cells.length=9:=rfl
  have hca:s.cells.all zJ=true:=rfl
  have htk:s.cells.take 9=s.cells:=rfl
  have hzd:StV.zero.drop 9=[]:=rfl
  have hzl:StV.zero.length=9:=rfl
  simp only [hb,lb,hce,hcl,hca,htk,hzd,hzl,List.append_nil,Y4,Zw,ZO,jE,go_sem,Nat.reduceEqDiff,reduceIte,Nat.reduceAdd,Nat.reduceLT]
  exact ⟨rfl,⟨Nat.zero_le _,fun t ht=>nomatch ht⟩⟩
 ·rintro r L' ⟨rfl,hk⟩
  exact ⟨hk,_,rfl,rfl⟩
end
end Go.X.TryzW
end
section
open Go Go.X Go.Proofs
set_option maxRecDepth 100000
set_option maxHeartbeats 4000000
namespace Go.X.TryzW
def q64 : XC :=(sO [oO 4 (.alloc [(.str []),(.str []),(.str []),(.str []),(.int .i64 0),(.str []),.nsl,.nsl,(.int .i64 0)]),oV 5 (.bool false)] (sO [oM 14 0,oM 15 1,oC 16 32 [.t 14,.t 15],oM 13 16,oX 17 0 13,oX 18 1 13,oM 6 17,oM 7 18] (.seq (sO [oM 19 7,oO 20 (.un .not (.t 19))] (cT 20 (sO [oO 21 (.build [(.str []),(.str []),(.str []),(.str []),(.int .i64 0),(.str []),.nsl,.nsl,(.int .i64 0)] []),oU (.store 9 (.t 4) (.t 21)),oV 5 (.bool false)] .ret) .skip)) (.seq (.drawE [oM 23 0,oN 24 23,oF 25 0 24,oL 26 25,oM 27 6,oQ 28 45 [.t 27],oC 29 122 [.t 26,.t 28],oM 22 29,oX 30 0 22,oX 31 1 22,oM 8 30,oM 9 31]) (sO [oM 33 8,oO 34 (.ex (.strB 5) [.t 33]),oC 35 132 [.t 34],oM 32 35,oX 36 0 32,oX 37 1 32,oX 38 2 32,oO 10 (.alloc [(.str []),(.str []),(.str []),(.str []),(.int .i64 0),(.str []),.nsl,.nsl,(.int .i64 0)]),oU (.store 9 (.t 10) (.t 36)),oM 11 37,oM 12 38] (sO [oO 39 (.loadN 9 (.t 10)),oU (.store 9 (.t 4) (.t 39)),oV 5 (.bool true)] .ret))))))
def q38 : XC :=(sO [oO 5 (.box (.t 1)),oI 8 0] (sO [oM 12 0,oF 13 0 5,oL 14 13,oC 15 64 [.t 12,.t 14],oM 11 15,oX 16 0 11,oX 17 1 11,oO 9 (.alloc [(.str []),(.str []),(.str []),(.str []),(.int .i64 0),(.str []),.nsl,.nsl,(.int .i64 0)]),oU (.store 9 (.t 9) (.t 16)),oM 10 17] (.seq (.block 0 (.seq (.drawE [oF 19 8 9,oL 20 19,oF 21 1 5,oL 22 21,oB 23 .neq 20 22,oM 24 23,oG 25 24 false (.fldA 3 (.t 5)),oG 26 24 false (.fldA 8 (.t 25)),oG 27 24 false (.load1 (.t 26)),oG 28 24 false (.fldA 1 (.t 5)),oG 29 24 false (.load1 (.t 28)),oG 30 24 false (.fldA 2 (.t 5)),oG 31 24 false (.load1 (.t 30)),oG 32 24 false (.len (.t 31)),oG 33 24 false (.bin .add (.t 29) (.t 32)),oG 34 24 false (.bin .neq (.t 27) (.t 33)),oO 35 (.pick (.t 24) (.c (.bool true)) (.t 34)),oM 36 35,oG 37 36 false (.fldA 16 (.t 5)),oG 38 36 false (.load1 (.t 37)),oG 39 36 false (.bin .gtr (.t 38) (oi 0)),oG 40 36 false (.mov (.t 39)),oG 41 40 true (.fldA 16 (.t 5)),oG 42 40 true (.load1 (.t 41)),oG 43 40 true (.mov (.t 0)),oG 44 40 true (.fldA 15 (.t 5)),oG 45 40 true (.load1 (.t 44)),oG 46 40 true (.pcall (.f 11) [.t 43,.t 45]),oG 47 40 true (.bin .add (.t 46) (oi 1)),oG 48 40 true (.bin .neq (.t 42) (.t 47)),oG 49 36 false (.pick (.t 40) (.t 48) (.c (.bool false))),oO 50 (.pick (.t 36) (.c (.bool true)) (.t 49)),oM 18 50]) (cT 18 (sO [oI 8 14] .ret) (sO [oF 52 16 5,oL 53 52,oK 54 .gtr 53 0,oM 55 54,oG 56 55 true (.mov (.t 0)),oG 57 55 true (.fldA 15 (.t 5)),oG 58 55 true (.load1 (.t 57)),oG 59 55 true (.call (.f 25) [.t 56,.t 58]),oG 60 55 true (.un .not (.t 59)),oO 61 (.pick (.t 55) (.t 60) (.c (.bool false))),oM 62 61,oG 63 62 false (.fldA 13 (.t 5)),oG 64 62 false (.load1 (.t 63)),oG 65 62 false (.lenS (.t 64)),oG 66 62 false (.bin .gtr (.t 65) (oi 256)),oO 67 (.pick (.t 62) (.c (.bool true)) (.t 66)),oM 51 67] (cT 51 (sO [oI 8 1] .ret) (sO [oM 69 3,oO 70 (.un .not (.t 69)),oM 71 70,oG 72 71 true (.mov (.t 2)),oG 73 71 true (.bin .geq (.t 72) (oi 256)),oO 74 (.pick (.t 71) (.t 73) (.c (.bool false))),oM 68 74] (cT 68 (sO [oI 8 8] .ret) .skip))))))) (sO [oI 8 0] .ret))))
def q40 : XC :=(sO [oM 6 0,oN 7 6,oF 8 3 7,oL 9 8,oM 10 1,oY 11 10,oB 12 .add 9 11,oN 13 6,oF 14 3 13,oS 14 12] (.ops [oM 15 0,oM 16 0,oN 17 16,oF 18 4 17,oL 19 18,oM 20 19,oG 21 20 false (.mov (.t 2)),oG 22 20 false (.bin .neq (.t 21) (oi 0)),oO 23 (.pick (.t 20) (.c (.bool true)) (.t 22)),oN 24 15,oF 25 4 24,oS 25 23]))
def q9 : XC :=(sO [oV 4 .nsl] (sO [oM 14 0,oM 15 1,oC 16 32 [.t 14,.t 15],oM 13 16,oX 17 0 13,oX 18 1 13,oM 5 17,oM 6 18] (.seq (sO [oM 19 6,oO 20 (.un .not (.t 19))] (cT 20 (sO [oV 4 .nsl] .ret) .skip)) (sO [oV 7 .nsl] (.seq (.seq (.drawE [oM 21 0,oN 22 21,oF 23 0 22,oL 24 23,oM 25 5,oQ 26 34 [.t 25],oC 27 33 [.t 24,.t 26,(oi 2147483648)],oY 28 27,oI 29 0]) (.block 0 (.loop (sO [oB 30 .lss 29 28] (.seq (cT 30 .skip (.exit 0)) (.seq (.block 1 (sO [oO 31 (.idxS 2 (.t 27) (.t 29)),oO 32 (.loadN 2 (.t 31)),oO 9 (.alloc [(.str []),(.str [])]),oU (.store 2 (.t 9) (.t 32))] (sO [oF 34 1 9,oL 35 34,oO 36 (.ex (.strB 5) [.t 35]),oC 37 35 [.t 36],oM 33 37,oX 38 0 33,oX 39 1 33,oX 40 2 33,oO 10 (.alloc [(.int .i64 0),(.str []),(.str []),(.int .i64 0)]),oU (.store 4 (.t 10) (.t 38)),oM 11 39,oM 12 40] (.ops [oM 41 7,oO 42 (.loadN 4 (.t 10)),oO 43 (.bslice 4 [(.int .i64 0),(.str []),(.str []),(.int .i64 0)] 1 [(0,(.t 42))]),oO 44 (.append 4 48 (.t 41) (.t 43)),oM 7 44])))) (.ops [oK 45 .add 29 1,oM 29 45]))))))) (sO [oM 46 7,oM 4 46] .ret))))))
section
variable {E:Env} {ρ:Rho} {L:List Blk} {K:IV->List Blk->Prop}
theorem yR {s:List UInt8} (h:s.length<=1048576):Plain (txtR s):=(Zp (by omega)).app ⟨_,Yr s⟩
theorem StV.ok.plain {s:StV} (h:s.ok):Plain s.bytes:=by
 obtain ⟨o1,o2,o3,o4,o5,o6,o7⟩:=h
 have tp:=fun (x:List UInt8) (hx:x.length<=100000)=>yR (s:=x) (by omega)
 have np:=fun (x:Nat) (hx:x<=4503599627370496)=>Zp (n:=x) (by omega)
 unfold StV.bytes
 refine ((((Plain.app ?_ (np _ (by omega))).app (tp _ o6)).app (np _ (by omega))).app (np _ (by omega))).app (np _ o7)
 simp only [List.flatMap_cons,List.flatMap_nil,List.append_nil]
 exact (tp _ o1).app ((tp _ o2).app ((tp _ o3).app (tp _ o4)))
theorem StV.ok.bytes_le {s:StV} (h:s.ok):s.bytes.length<=600000:=by
 obtain ⟨o1,o2,o3,o4,o5,o6,o7⟩:=h
 have tl:=fun x (hx:List.length x<=100000)=>zW x (by omega)
 have nl:=fun x (hx:x<=4503599627370496)=>(show (numR x).length<=8 by have:=zF x;have:=Za (n:=x) (k:=7) (by omega);omega)
 have t1:=tl s.dfn o1
 have t2:=tl s.id o2
 have t3:=tl s.par o3
 have t4:=tl s.pn o4
 have t5:=tl s.txt o6
 have n1:=nl s.st (by omega)
 have n2:=nl s.ev o7
 have n0:=nl 0 (by omega)
 simp only [StV.bytes,lla,List.flatMap_cons,List.flatMap_nil,lln]
 omega
def YH:StV:=⟨[],[],[],[],0,[],0⟩
def faa:List UInt8:=[102,97,97]
def Y2 (d:KV):Option StV->Prop
 | none=>d.scan [110,47] [110,48]=[]
 | some s=>d.scan [110,47] [110,48]=[([110,47,48,48,48],faa)]/\d.get [115,47,48,48,48]=some (strOf s.bytes)/\s.ok
theorem Y2.num {d:KV} {kn:Option StV} (h:Y2 d kn):jX (d.scan [110,47] [110,48]) faa=0/\decide (0<(d.scan [110,47] [110,48]).length)=kn.isSome:=by
 cases kn with
 | none=>
  rw [show d.scan [110,47] [110,48]=[] from h]
  exact ⟨rfl,rfl⟩
 | some s=>
  rw [show d.scan [110,47] [110,48]=_ from h.1]
  refine ⟨?_,rfl⟩
  simp [jX]
theorem YL (hP:E.P=Tryz.prog) {x s N:Nat} {F:Nat->Prop} {fence:Int} {d:KV} {kn:Option StV} (hx:L[x]?=some (exB s)) (h:zt L s F N fence d) (hN:d.length<=900000) (hf:Y2 d kn) :
  XT E 32 [.ptr x 0 0,.str faa] L fun r L'=>r=.tup [.int .i64 0,.bool kn.isSome]/\L'=L:=by
 have:=z6F (name:=faa) hP hx h hN
 rw [hf.num.1] at this
 rw [hf.num.2] at this
 exact this
theorem z7S (hP:E.P=Tryz.prog) {x s N:Nat} {F:Nat->Prop} {fence:Int} {d:KV} {kn:Option StV} (hx:L[x]?=some (exB s)) (h:zt L s F N fence d) (hN:d.length<=900000) (hf:Y2 d kn) :
  XT E 64 [.ptr x 0 0,.str faa] L fun r L'=>r=.tup [.agg (kn.getD YH).icells,.bool kn.isSome]/\L'=L:=by
 refine Z7 (R:=fun r L'=>∃cs,r=.tup [.agg cs,.bool kn.isSome]/\(cs=(kn.getD YH).icells\/cs=[.str [],.str [],.str [],.str [],.int .i64 0,.str [],.nsl,.nsl,.int .i64 0]/\kn=none)/\Keep none' L L') ?_ ?_
 ·skip
  have lx:=zg hx
  refine xt2 (fn:=Tryz.f64) (rs:=[.cellN 4 9,.tmp 5]) (c:=q64) hP fun ρ h0 h1=>?_
  unfold q64
  simp (maxDischargeDepth:=12) only [h0,h1,go_sem,Nat.reduceEqDiff,reduceIte,Nat.reduceAdd]
  have kA:Keep none' L (L++[Blk.cells 9 [[.str [],.str [],.str [],.str [],.int .i64 0,.str [],.nsl,.nsl,.int .i64 0]]]):=Keep.app Keep.refl
  obtain ⟨t4,ht4⟩:∃t4,L.length=t4:=⟨_,rfl⟩
  have gA:(L++[Blk.cells 9 [[.str [],.str [],.str [],.str [],.int .i64 0,.str [],.nsl,.nsl,.int .i64 0]]])[t4]?=some (.cells 9 [[.str [],.str [],.str [],.str [],.int .i64 0,.str [],.nsl,.nsl,.int .i64 0]]):=by rw [<-ht4];simp
  rw [ht4]
  generalize L++[Blk.cells 9 [[.str [],.str [],.str [],.str [],.int .i64 0,.str [],.nsl,.nsl,.int .i64 0]]]=LA at *
  have hxA:=kA.get hx fun h=>h
  have hSA:zt LA s F N fence d:=h.keep kA fun _ _ h=>h
  have lxA:=zg hxA
  have lA:=zg gA
  refine zh (YL (E:=E.noPan) hP hxA hSA hN hf) ?_
  rintro r L' ⟨rfl,rfl⟩
  cases kn with
  | none=>
   have e1:(none:Option StV).isSome=false:=rfl
   simp (maxDischargeDepth:=12) only [e1,gA,lA,Y4,Zw,ZO,jE,go_sem,Nat.reduceEqDiff,reduceIte,Nat.reduceAdd,Nat.reduceLT]
   refine ⟨_,rfl,.inr rfl,Keep.set kA fun h=>by omega⟩
  | some s1=>
   have e1:(some s1).isSome=true:=rfl
   have hf1:_=_:=hf.1
   have hf2:_=_:=hf.2.1
   have hf3:s1.ok:=hf.2.2
   have hp:=hf3.plain
   have hbl:=hf3.bytes_le
   unfold exB at hxA
   simp (maxDischargeDepth:=12) only [h0,e1,hxA,go_sem,Nat.reduceEqDiff,reduceIte,Nat.reduceAdd,Nat.reduceLT]
   refine Zt (args':=[.int .i64 0]) rfl (YA (E:=E.noPan) hP) (fun _=>rfl) ?_
   simp (maxDischargeDepth:=12) only [go_sem,Nat.reduceEqDiff,reduceIte]
   refine zh (z8c (E:=E.noPan) hP hSA _) ?_
   rintro r L1 ⟨rfl,rfl⟩
   unfold getR
   rw [hf2]
   have e2:(some (strOf s1.bytes)).getD []=strOf s1.bytes:=rfl
   have f1:((strOf s1.bytes).length<=9223372036854775807)=True:=eq_true (by rw [hp.len];omega)
   simp (maxDischargeDepth:=12) only [e2,f1,go_sem,Nat.reduceEqDiff,reduceIte,Nat.reduceAdd,Nat.reduceLT]
   refine Y9 (args':=[.isl s1.bytes]) ?_ (z0x (E:=E.noPan) hP hf3) rfl rfl ?_
   ·rw [We rfl,hp.rows]
   have hce:cellsOf (.agg s1.icells)=s1.icells:=rfl
   have hcl:s1.icells.length=9:=rfl
   have hca:s1.icells.all zJ=true:=rfl
   have htk:s1.icells.take 9=s1.icells:=rfl
   have hzd:List.drop 9 ([.str [],.str [],.str [],.str [],.int .i64 0,.str [],.nsl,.nsl,.int .i64 0]:List IV)=[]:=rfl
   have hzl:List.length ([.str [],.str [],.str [],.str [],.int .i64 0,.str [],.nsl,.nsl,.int .i64 0]:List IV)=9:=rfl
   simp (maxDischargeDepth:=12) only [gA,lA,hce,hcl,hca,htk,hzd,hzl,List.append_nil,Y4,Zw,ZO,jE,go_sem,Nat.reduceEqDiff,reduceIte,Nat.reduceAdd,Nat.reduceLT]
   exact ⟨_,rfl,.inl rfl,Keep.set (Keep.app (Keep.app kA)) fun h=>by omega⟩
 ·rintro r L' ⟨cs,rfl,hc | ⟨hc,rfl⟩,hk⟩
  ·subst hc;exact ⟨hk,_,rfl,rfl⟩
  ·subst hc;exact ⟨hk,_,rfl,rfl⟩
def updC (ex:Nat) (ev:IV) (st:StV) (tk:IV) (req ans:List UInt8) (src seq:Nat):List IV:=
 [.str faa,.int .i64 ex,ev,.str st.dfn,.str st.id,.str st.par,.str st.pn,.int .i64 st.st,.str st.txt,.nsl,.nsl,.int .i64 st.ev,tk,.str req,.str ans,.int .i64 src,.int .i64 seq]
def zdX (d:KV) (src seq:Nat):Prop:=seq=0\/src<3/\∃m,WF d (yC src) m/\seq=m+1
theorem z7R (hP:E.P=Tryz.prog) {x s N:Nat} {F:Nat->Prop} {fence:Int} {d:KV} {kn:Option StV} {st:StV} {ev tk:IV} {ne ex src seq:Nat} {req ans:List UInt8} (hx:L[x]?=some (exB s)) (h:zt L s F N fence d) (hN:d.length<=900000) (hf:Y2 d kn)
  (hev:lenOf ev=some ne) (hec:zJ ev=true) (htc:zJ tk=true) (hex:(kn.getD YH).ev=ex) (hse:st.ev=ex+ne) (hsz:ex+ne<=4503599627370496) (hr:req.length<=256) (hq:zdX d src seq) :
  XT E 38 [.ptr x 0 0,.agg (updC ex ev st tk req ans src seq),.int .i64 0,.bool kn.isSome] L fun r L'=>r=.int .i64 0/\L'=L:=by
 refine Z7 (R:=fun r L'=>r=.int .i64 0/\Keep none' L L') ?_ ?_
 ·skip
  refine xt4 (fn:=Tryz.f38) (rs:=[.tmp 8]) (c:=q38) hP fun ρ h0 h1 h2 h3=>?_
  unfold q38
  have hce:cellsOf (.agg [.str faa,.int .i64 ex,ev,.str st.dfn,.str st.id,.str st.par,.str st.pn,.int .i64 st.st,.str st.txt,.nsl,.nsl,.int .i64 st.ev,tk,.str req,.str ans,.int .i64 src,.int .i64 seq])=[.str faa,.int .i64 ex,ev,.str st.dfn,.str st.id,.str st.par,.str st.pn,.int .i64 st.st,.str st.txt,.nsl,.nsl,.int .i64 st.ev,tk,.str req,.str ans,.int .i64 src,.int .i64 seq]:=rfl
  unfold updC at h1
  simp only [h0,h1,hce,go_sem,Nat.reduceEqDiff,reduceIte,Nat.reduceAdd,Nat.reduceLT]
  obtain ⟨u,hu⟩:∃u,L.length=u:=⟨_,rfl⟩
  have kA:Keep none' L (L++[Blk.cells 17 [[.str faa,.int .i64 ex,ev,.str st.dfn,.str st.id,.str st.par,.str st.pn,.int .i64 st.st,.str st.txt,.nsl,.nsl,.int .i64 st.ev,tk,.str req,.str ans,.int .i64 src,.int .i64 seq]]]):=Keep.app Keep.refl
  have gA:(L++[Blk.cells 17 [[.str faa,.int .i64 ex,ev,.str st.dfn,.str st.id,.str st.par,.str st.pn,.int .i64 st.st,.str st.txt,.nsl,.nsl,.int .i64 st.ev,tk,.str req,.str ans,.int .i64 src,.int .i64 seq]]])[u]?=some (.cells 17 [[.str faa,.int .i64 ex,ev,.str st.dfn,.str st.id,.str st.par,.str st.pn,.int .i64 st.st,.str st.txt,.nsl,.nsl,.int .i64 st.ev,tk,.str req,.str ans,.int .i64 src,.int .i64 seq]]):=by rw [<-hu];simp
  rw [hu]
  generalize L++[Blk.cells 17 [[.str faa,.int .i64 ex,ev,.str st.dfn,.str st.id,.str st.par,.str st.pn,.int .i64 st.st,.str st.txt,.nsl,.nsl,.int .i64 st.ev,tk,.str req,.str ans,.int .i64 src,.int .i64 seq]]]=LA at *
  have hxA:=kA.get hx fun h=>h
  have hSA:zt LA s F N fence d:=h.keep kA fun _ _ h=>h
  have lxA:=zg hxA
  have lA:=zg gA
  refine zh (z7S (E:=E.noPan) hP hxA hSA hN hf) ?_
  rintro r L' ⟨rfl,rfl⟩
  have hce2:∀s1:StV,cellsOf (.agg s1.icells)=s1.icells:=fun _=>rfl
  have hcl:∀s1:StV,s1.icells.length=9:=fun _=>rfl
  have hca:∀s1:StV,s1.icells.all zJ=true:=fun _=>rfl
  have htk:∀s1:StV,s1.icells.take 9=s1.icells:=fun _=>rfl
  have hzd:List.drop 9 ([.str [],.str [],.str [],.str [],.int .i64 0,.str [],.nsl,.nsl,.int .i64 0]:List IV)=[]:=rfl
  have hzl:List.length ([.str [],.str [],.str [],.str [],.int .i64 0,.str [],.nsl,.nsl,.int .i64 0]:List IV)=9:=rfl
  have h8:∀s1:StV,s1.icells.getD 8 .und=.int .i64 s1.ev:=fun _=>rfl
  have w1:IntKind.i64.wrap ((ex:Int)+(ne:Int))=((ex+ne:Nat):Int):=by rw [wrap64 (by omega) (by omega)];rfl
  have f2:((256:Int)<(req.length:Int))=False:=eq_false (by omega)
  have kB:Keep none' L (L'++[Blk.cells 9 [(kn.getD YH).icells]]):=Keep.app kA
  have hxB:=kB.get hx fun h=>h
  have hSB:zt (L'++[Blk.cells 9 [(kn.getD YH).icells]]) s F N fence d:=h.keep kB fun _ _ h=>h
  have hcon:(!kn.isSome&&decide ((256:Int)<=0))=false:=by simp
  rcases hq with rfl | ⟨hsrc,m,hm,rfl⟩
  ·rcases Bool.eq_false_or_eq_true kn.isSome with hkn | hkn<;>
   ·simp only [h2,h3,hkn,gA,lA,hce2,hcl,hca,hzd,hzl,h8,List.append_nil,hex,hse,zC hev,w1,f2,Int.natCast_zero,go_sem,Nat.reduceEqDiff,reduceIte,Int.reduceLT,Int.reduceLE,Nat.reduceAdd,Nat.reduceLT]
    exact kB
  ·have f3:((0:Int)<((m+1:Nat):Int))=True:=eq_true (by omega)
   have w2:IntKind.i64.wrap ((m:Int)+1)=((m+1:Nat):Int):=by have:=hm.2;rw [wrap64 (by omega) (by omega)];rfl
   simp only [h0,gA,lA,hce2,hcl,hca,hzd,hzl,h8,List.append_nil,hex,hse,zC hev,w1,f3,go_sem,Nat.reduceEqDiff,reduceIte,Nat.reduceAdd,Nat.reduceLT]
   refine yH (E:=E.noPan) (.int .i64 m) rfl (fun L2 ha=>JH (by exact hP) ((yG ha).get hxB fun h=>h) (hSB.keep (yG ha) fun _ _ h=>h) hsrc hm) ?_
   simp only [h0,gA,lA,w2,f3,go_sem,Nat.reduceEqDiff,reduceIte,Nat.reduceAdd,Nat.reduceLT]
   refine zh (Jm (E:=E.noPan) hP hxB hsrc) ?_
   rintro r L2 ⟨rfl,rfl⟩
   rcases Bool.eq_false_or_eq_true kn.isSome with hkn | hkn<;>
   ·simp only [h2,h3,hkn,gA,lA,w2,f2,f3,go_sem,Nat.reduceEqDiff,reduceIte,Int.reduceLE,Nat.reduceAdd,Nat.reduceLT]
    exact kB
 ·rintro r L' ⟨rfl,hk⟩
  exact ⟨hk,_,rfl,rfl⟩
theorem zbD (hP:E.P=Tryz.prog) {x s N:Nat} {F:Nat->Prop} {fence:Int} {d:KV} {kn:Option StV} {st:StV} {ev tk:IV} {ne ex src seq:Nat} {req ans:List UInt8} (hx:L[x]?=some (exB s)) (h:zt L s F N fence d) (hN:d.length<=900000) (hf:Y2 d kn)
  (hev:lenOf ev=some ne) (hec:zJ ev=true) (htc:zJ tk=true) (hex:(kn.getD YH).ev=ex) (hse:st.ev=ex+ne) (hsz:ex+ne<=4503599627370496) (hr:req.length<=256) {m:Nat} (hsrc:src<3) (hm:WF d (yC src) m) (hq0:0<seq) (hq1:seq≠m+1) :
  XT E 38 [.ptr x 0 0,.agg (updC ex ev st tk req ans src seq),.int .i64 0,.bool kn.isSome] L fun r L'=>r=.int .i64 14/\L'=L:=by
 refine Z7 (R:=fun r L'=>r=.int .i64 14/\Keep none' L L') ?_ ?_
 ·skip
  refine xt4 (fn:=Tryz.f38) (rs:=[.tmp 8]) (c:=q38) hP fun ρ h0 h1 h2 h3=>?_
  unfold q38
  have hce:cellsOf (.agg [.str faa,.int .i64 ex,ev,.str st.dfn,.str st.id,.str st.par,.str st.pn,.int .i64 st.st,.str st.txt,.nsl,.nsl,.int .i64 st.ev,tk,.str req,.str ans,.int .i64 src,.int .i64 seq])=[.str faa,.int .i64 ex,ev,.str st.dfn,.str st.id,.str st.par,.str st.pn,.int .i64 st.st,.str st.txt,.nsl,.nsl,.int .i64 st.ev,tk,.str req,.str ans,.int .i64 src,.int .i64 seq]:=rfl
  unfold updC at h1
  simp only [h0,h1,hce,go_sem,Nat.reduceEqDiff,reduceIte,Nat.reduceAdd,Nat.reduceLT]
  obtain ⟨u,hu⟩:∃u,L.length=u:=⟨_,rfl⟩
  have kA:Keep none' L (L++[Blk.cells 17 [[.str faa,.int .i64 ex,ev,.str st.dfn,.str st.id,.str st.par,.str st.pn,.int .i64 st.st,.str st.txt,.nsl,.nsl,.int .i64 st.ev,tk,.str req,.str ans,.int .i64 src,.int .i64 seq]]]):=Keep.app Keep.refl
  have gA:(L++[Blk.cells 17 [[.str faa,.int .i64 ex,ev,.str st.dfn,.str st.id,.str st.par,.str st.pn,.int .i64 st.st,.str st.txt,.nsl,.nsl,.int .i64 st.ev,tk,.str req,.str ans,.int .i64 src,.int .i64 seq]]])[u]?=some (.cells 17 [[.str faa,.int .i64 ex,ev,.str st.dfn,.str st.id,.str st.par,.str st.pn,.int .i64 st.st,.str st.txt,.nsl,.nsl,.int .i64 st.ev,tk,.str req,.str ans,.int .i64 src,.int .i64 seq]]):=by rw [<-hu];simp
  rw [hu]
  generalize L++[Blk.cells 17 [[.str faa,.int .i64 ex,ev,.str st.dfn,.str st.id,.str st.par,.str st.pn,.int .i64 st.st,.str st.txt,.nsl,.nsl,.int .i64 st.ev,tk,.str req,.str ans,.int .i64 src,.int .i64 seq]]]=LA at *
  have hxA:=kA.get hx fun h=>h
  have hSA:zt LA s F N fence d:=h.keep kA fun _ _ h=>h
  have lxA:=zg hxA
  have lA:=zg gA
  refine zh (z7S (E:=E.noPan) hP hxA hSA hN hf) ?_
  rintro r L' ⟨rfl,rfl⟩
  have hce2:∀s1:StV,cellsOf (.agg s1.icells)=s1.icells:=fun _=>rfl
  have hcl:∀s1:StV,s1.icells.length=9:=fun _=>rfl
  have hca:∀s1:StV,s1.icells.all zJ=true:=fun _=>rfl
  have htk:∀s1:StV,s1.icells.take 9=s1.icells:=fun _=>rfl
  have hzd:List.drop 9 ([.str [],.str [],.str [],.str [],.int .i64 0,.str [],.nsl,.nsl,.int .i64 0]:List IV)=[]:=rfl
  have hzl:List.length ([.str [],.str [],.str [],.str [],.int .i64 0,.str [],.nsl,.nsl,.int .i64 0]:List IV)=9:=rfl
  have h8:∀s1:StV,s1.icells.getD 8 .und=.int .i64 s1.ev:=fun _=>rfl
  have w1:IntKind.i64.wrap ((ex:Int)+(ne:Int))=((ex+ne:Nat):Int):=by rw [wrap64 (by omega) (by omega)];rfl
  have f2:((256:Int)<(req.length:Int))=False:=eq_false (by omega)
  have kB:Keep none' L (L'++[Blk.cells 9 [(kn.getD YH).icells]]):=Keep.app kA
  have hxB:=kB.get hx fun h=>h
  have hSB:zt (L'++[Blk.cells 9 [(kn.getD YH).icells]]) s F N fence d:=h.keep kB fun _ _ h=>h
  have hcon:(!kn.isSome&&decide ((256:Int)<=0))=false:=by simp
  have f3:((0:Int)<(seq:Int))=True:=eq_true (by omega)
  have w2:IntKind.i64.wrap ((m:Int)+1)=((m+1:Nat):Int):=by have:=hm.2;rw [wrap64 (by omega) (by omega)];rfl
  have f4:((seq:Int)=((m+1:Nat):Int))=False:=eq_false (by omega)
  simp only [h0,gA,lA,hce2,hcl,hca,hzd,hzl,h8,List.append_nil,hex,hse,zC hev,w1,f3,go_sem,Nat.reduceEqDiff,reduceIte,Nat.reduceAdd,Nat.reduceLT]
  refine yH (E:=E.noPan) (.int .i64 m) rfl (fun L2 ha=>JH (by exact hP) ((yG ha).get hxB fun h=>h) (hSB.keep (yG ha) fun _ _ h=>h) hsrc hm) ?_
  simp only [w2,f3,f4,go_sem,Nat.reduceEqDiff,reduceIte,Nat.reduceAdd]
  exact kB
 ·rintro r L' ⟨rfl,hk⟩
  exact ⟨hk,_,rfl,rfl⟩
theorem z5B (hP:E.P=Tryz.prog) {b x n:Nat} {l:List OpV} {sz:Int} {F:Nat->Prop} {w:IV} (h:ZE L b x l sz F) (hw:lenOf w=some n) (h0:0<=sz) (h1:sz+n<=1000000000) :
  XT E 40 [.ptr b 0 0,w,.int .i64 0] L fun r L'=>r=.tup []/\ZE L' b x l (sz+n) F/\Keep F L L'/\L'.length=L.length:=by
 have w1:IntKind.i64.wrap (sz+(n:Int))=sz+n:=by rw [wrap64 (by omega) (by omega)]
 obtain ⟨v,m,hb,hm,hv,rfl⟩:=h
 have lb:=zg hb
 clear h0 h1
 refine xt3 (fn:=Tryz.f40) (rs:=[]) (c:=q40) hP fun ρ h0 h1 h2=>?_
 unfold q40
 simp only [h0,h1,h2,hb,lb,zC hw,w1,go_sem,Nat.reduceEqDiff,reduceIte,Nat.reduceAdd,Nat.reduceLT,Nat.reduceLeDiff]
 have hbm:¬b=m:=fun h=>by subst h;rw [hb] at hm;simp at hm
 refine ⟨⟨v,m,?_,?_,?_,rfl⟩,Keep.set (Keep.set Keep.refl fun _=>.inl rfl) fun _=>.inl rfl⟩
 ·rw [List.getElem?_set_self (by rw [lls];exact zf hb)]
 ·rw [List.getElem?_set_ne hbm,List.getElem?_set_ne hbm];exact hm
 ·rcases hv with hv | ⟨g,rfl,hg,hne⟩
  ·exact .inl hv
  ·have hbg:¬b=g:=fun h=>by subst h;rw [hb] at hg;simp at hg
   exact .inr ⟨g,rfl,by rw [List.getElem?_set_ne hbg,List.getElem?_set_ne hbg];exact hg,hne⟩
theorem z4z (hP:E.P=Tryz.prog) {x s N:Nat} {F:Nat->Prop} {fence:Int} {d:KV} {kn:Option StV} (hx:L[x]?=some (exB s)) (h:zt L s F N fence d) (hN:d.length<=900000) (hkl:∀p∈d,p.1.length<=1000) (hf:Y2 d kn) (he:d.list [101,47,48,48,48,47]=[]) :
  XT E 9 [.ptr x 0 0,.str faa] L fun r L'=>r=.isl []/\L'=L:=by
 refine Z7 (R:=fun r L'=>r=.nsl/\Keep none' L L') ?_ ?_
 ·skip
  have lx:=zg hx
  refine xt2 (fn:=Tryz.f9) (rs:=[.tmp 4]) (c:=q9) hP fun ρ h0 h1=>?_
  unfold q9
  simp only [h0,h1,go_sem,Nat.reduceEqDiff,reduceIte]
  refine zh (YL (E:=E.noPan) hP hx h hN hf) ?_
  rintro r L' ⟨rfl,rfl⟩
  have hx1:=hx
  unfold exB at hx1
  rcases Bool.eq_false_or_eq_true kn.isSome with hkn | hkn
  ·simp only [h0,hkn,hx1,go_sem,Nat.reduceEqDiff,reduceIte,Nat.reduceAdd,Nat.reduceLT]
   refine Zt (args':=[.int .i64 0]) rfl (Wp (E:=E.noPan) hP) (fun _=>rfl) ?_
   simp only [go_sem,Nat.reduceEqDiff,reduceIte]
   refine zh (z4c (E:=E.noPan) hP h hN (by decide) hkl) ?_
   rintro r L1 ⟨rfl,rfl⟩
   rw [he]
   have ln:lenOf (.isl (ZZ []))=some 0:=rfl
   simp only [zC ln,go_sem,Nat.reduceEqDiff,reduceIte]
   refine zT (fun n ρ L=>n=0/\L=L1/\ρ 28=.int .i64 0/\ρ 29=.int .i64 0/\ρ 7=.nsl) ⟨rfl,rfl,by simp only [go_sem,Nat.reduceEqDiff,reduceIte]<;>rfl,by simp only [go_sem,Nat.reduceEqDiff,reduceIte],by simp only [go_sem,Nat.reduceEqDiff,reduceIte]⟩ ?_
   clear h0 h1 ρ
   rintro n ρ L2 ⟨rfl,rfl,h28,h29,h7⟩
   simp only [h28,h29,h7,go_sem,Nat.reduceEqDiff,reduceIte,Int.reduceLT]
   exact Keep.refl
  ·simp only [hkn,go_sem,Nat.reduceEqDiff,reduceIte,Nat.reduceAdd,Nat.reduceLT]
   exact Keep.refl
 ·rintro r L' ⟨rfl,hk⟩
  exact ⟨hk,_,rfl,rfl⟩
end
end Go.X.TryzW
end
section
open Go Go.X Go.Proofs
set_option maxRecDepth 100000
set_option maxHeartbeats 4000000
namespace Go.X.TryzW
def q111 : XC :=(sO [oV 2 .nsl] (.seq (sO [oM 3 0,oO 4 (.isNil 0 false (.t 3))] (cT 4 (sO [oV 2 .nsl] .ret) .skip)) (sO [oO 5 (.bslice 13 [(.int .i64 0),(.raw (.complex .f64 0 0)),(.str []),(.str []),(.int .i64 0),(.int .i64 0),(.int .i64 0),(.str []),(.str []),(.str []),(.str []),(.str []),(.int .i64 0)] 0 []),oM 6 0,oO 7 (.append 13 168 (.t 5) (.t 6)),oM 2 7] .ret)))
def q47 : XC :=(sO [oV 6 .nsl,oI 7 0] (sO [oM 15 2,oC 16 111 [.t 15],oM 8 16] (.seq (sO [oM 17 8,oY 18 17,oI 19 0] (.block 0 (.loop (sO [oB 20 .lss 19 18] (.seq (cT 20 .skip (.exit 0)) (.seq (.block 1 (sO [oM 21 19,oM 9 21] (sO [oM 22 8,oM 23 9,oO 24 (.idxS 13 (.t 22) (.t 23)),oM 10 24] (.seq (sO [oM 25 10,oN 26 25,oF 27 0 26,oL 28 27,oK 29 .eql 28 3] (cT 29 (.exit 1) .skip)) (sO [oM 31 1,oC 32 112 [.t 31],oM 30 32,oX 33 0 30,oX 34 1 30,oM 11 33,oM 12 34] (.seq (sO [oM 35 12,oK 36 .neq 35 0] (cT 36 (sO [oM 37 12,oV 6 .nsl,oM 7 37] .ret) .skip)) (sO [oM 38 10,oM 39 11,oN 40 38,oF 41 1 40,oS 41 39] (sO [oM 43 10,oN 44 43,oO 45 (.loadN 13 (.t 44)),oC 46 46 [.t 45],oM 42 46,oX 47 0 42,oX 48 1 42,oM 13 47,oM 14 48] (sO [oM 49 10,oN 50 49,oF 51 0 50,oL 52 51,oK 53 .eql 52 1] (cT 53 (.ops [oM 54 0,oM 55 10,oN 56 55,oF 57 1 56,oL 58 57,oC 59 113 [.t 58],oM 60 13,oC 61 41 [.t 54,.t 59,.t 60]]) (.ops [oM 62 0,oM 63 10,oN 64 63,oO 65 (.loadN 13 (.t 64)),oC 66 114 [.t 65],oM 67 13,oC 68 41 [.t 62,.t 66,.t 67]]))))))))))) (.ops [oK 69 .add 19 1,oM 19 69]))))))) (sO [oM 70 8,oM 6 70,oI 7 0] .ret))))
def q10 : XC :=(sO [oO 5 (.box (.t 2)),oV 6 .nsl,oI 7 0] (.seq (sO [oM 25 0,oM 26 1,oC 27 24 [.t 25,.t 26],oM 8 27] (sO [oM 28 8,oK 29 .neq 28 0] (cT 29 (sO [oM 30 8,oV 6 .nsl,oM 7 30] .ret) .skip))) (.seq (.seq (.drawE [oF 31 0 5,oL 32 31,oQ 33 36 [.t 32],oO 34 (.un .not (.t 33)),oM 35 34,oG 36 35 false (.fldA 0 (.t 5)),oG 37 35 false (.load1 (.t 36)),oG 38 35 false (.mov (.t 0)),oG 39 35 false (.nilck (.t 38)),oG 40 35 false (.fldA 1 (.t 39)),oG 41 35 false (.load1 (.t 40)),oG 42 35 false (.pcall (.f 37) [.t 37,.t 41]),oG 43 35 false (.mov (.t 0)),oG 44 35 false (.nilck (.t 43)),oG 45 35 false (.fldA 2 (.t 44)),oG 46 35 false (.load1 (.t 45)),oG 47 35 false (.bin .neq (.t 42) (.t 46)),oO 48 (.pick (.t 35) (.c (.bool true)) (.t 47))]) (cT 48 (sO [oV 6 .nsl,oI 7 17] .ret) .skip)) (sO [oM 50 0,oF 51 0 5,oL 52 51,oC 53 32 [.t 50,.t 52],oM 49 53,oX 54 0 49,oX 55 1 49,oM 9 54,oM 10 55] (.seq (sO [oM 56 0,oO 57 (.loadN 17 (.t 5)),oM 58 9,oM 59 10,oC 60 38 [.t 56,.t 57,.t 58,.t 59],oM 11 60] (sO [oM 61 11,oK 62 .neq 61 0] (cT 62 (sO [oM 63 11,oV 6 .nsl,oM 7 63] .ret) .skip))) (sO [oM 64 0,oC 65 26 [.t 64],oM 12 65] (.seq (sO [oF 66 2 5,oL 67 66,oY 68 67,oI 69 0] (.block 0 (.loop (sO [oB 70 .lss 69 68] (.seq (cT 70 .skip (.exit 0)) (.seq (.block 1 (sO [oM 71 69,oO 72 (.idxS 4 (.t 67) (.t 69)),oO 73 (.loadN 4 (.t 72)),oO 14 (.alloc [(.int .i64 0),(.str []),(.str []),(.int .i64 0)]),oM 13 71,oU (.store 4 (.t 14) (.t 73))] (sO [oO 75 (.loadN 4 (.t 14)),oC 76 39 [.t 75],oM 74 76,oX 77 0 74,oX 78 1 74,oM 15 77,oM 16 78] (sO [oM 79 12,oM 80 15,oM 81 16,oC 82 40 [.t 79,.t 80,.t 81]] (.ops [oM 83 12,oM 84 9,oF 85 1 5,oL 86 85,oM 87 13,oB 88 .add 86 87,oC 89 42 [.t 84,.t 88],oM 90 15,oC 91 41 [.t 83,.t 89,.t 90]]))))) (.ops [oK 92 .add 69 1,oM 69 92]))))))) (sO [oF 94 3 5,oO 95 (.loadN 9 (.t 94)),oC 96 43 [.t 95],oM 93 96,oX 97 0 93,oX 98 1 93,oM 17 97,oM 18 98] (sO [oM 99 12,oM 100 17,oM 101 18,oC 102 40 [.t 99,.t 100,.t 101]] (.seq (.drawE [oM 103 12,oM 104 9,oQ 105 44 [.t 104],oF 106 0 5,oL 107 106,oO 108 (.ex (.strB 5) [.t 107]),oC 109 41 [.t 103,.t 105,.t 108]]) (sO [oM 110 12,oM 111 9,oC 112 45 [.t 111],oM 113 17,oC 114 41 [.t 110,.t 112,.t 113]] (.seq (sO [oF 115 12 5,oL 116 115,oY 117 116,oI 118 0] (.block 2 (.loop (sO [oB 119 .lss 118 117] (.seq (cT 119 .skip (.exit 2)) (.seq (.block 3 (sO [oO 120 (.idxS 13 (.t 116) (.t 118)),oO 121 (.loadN 13 (.t 120)),oO 20 (.alloc [(.int .i64 0),(.raw (.complex .f64 0 0)),(.str []),(.str []),(.int .i64 0),(.int .i64 0),(.int .i64 0),(.str []),(.str []),(.str []),(.str []),(.str []),(.int .i64 0)]),oU (.store 13 (.t 20) (.t 121))] (sO [oO 123 (.loadN 13 (.t 20)),oC 124 46 [.t 123],oM 122 124,oX 125 0 122,oX 126 1 122,oM 21 125,oM 22 126] (sO [oM 127 12,oM 128 21,oM 129 22,oC 130 40 [.t 127,.t 128,.t 129]] (sO [oF 131 0 20,oL 132 131,oK 133 .eql 132 3] (cT 133 (.ops [oM 134 12,oF 135 6 20,oO 136 (.loadN 7 (.t 135)),oC 137 29 [.t 134,.t 136]]) .skip)))))) (.ops [oK 138 .add 118 1,oM 118 138]))))))) (.seq (sO [oM 139 12,oN 140 139,oF 141 4 140,oL 142 141,oM 143 142,oG 144 143 false (.mov (.t 12)),oG 145 143 false (.nilck (.t 144)),oG 146 143 false (.fldA 3 (.t 145)),oG 147 143 false (.load1 (.t 146)),oG 148 143 false (.bin .gtr (.t 147) (oi 65000)),oO 149 (.pick (.t 143) (.c (.bool true)) (.t 148)),oM 150 149,oG 151 150 false (.fldA 14 (.t 5)),oG 152 150 false (.load1 (.t 151)),oG 153 150 false (.lenS (.t 152)),oG 154 150 false (.bin .gtr (.t 153) (oi 4096)),oO 155 (.pick (.t 150) (.c (.bool true)) (.t 154))] (cT 155 (sO [oV 6 .nsl,oI 7 2] .ret) .skip)) (sO [oM 157 12,oM 158 1,oF 159 12 5,oL 160 159,oC 161 47 [.t 157,.t 158,.t 160],oM 156 161,oX 162 0 156,oX 163 1 156,oM 23 162,oM 18 163] (.seq (sO [oM 164 18,oK 165 .neq 164 0] (cT 165 (sO [oM 166 18,oV 6 .nsl,oM 7 166] .ret) .skip)) (.seq (sO [oF 167 16 5,oL 168 167,oK 169 .gtr 168 0] (cT 169 (.drawE [oM 170 12,oF 171 15 5,oL 172 171,oQ 173 28 [.t 172],oF 174 16 5,oL 175 174,oC 176 27 [.t 170,.t 173,.t 175]]) .skip)) (.seq (sO [oF 177 13 5,oL 178 177,oO 179 (.bin .neq (.t 178) (.c (.str [])))] (cT 179 (.ops [oM 180 12,oM 181 9,oF 182 13 5,oL 183 182,oF 184 14 5,oL 185 184,oC 186 48 [.t 180,.t 181,.t 183,.t 185]]) .skip)) (.seq (sO [oM 187 1,oM 188 12,oN 189 188,oF 190 1 189,oL 191 190,oC 192 30 [.t 187,.t 191],oM 24 192] (sO [oM 193 24,oK 194 .neq 193 0] (cT 194 (sO [oM 195 24,oV 6 .nsl,oM 7 195] .ret) .skip))) (sO [oM 196 23,oM 6 196,oI 7 0] .ret)))))))))))))))))))
section
variable {E:Env} {ρ:Rho} {L:List Blk} {K:IV->List Blk->Prop}
theorem z3K (hP:E.P=Tryz.prog):zI E 111 [.isl []] (.isl []):=by
 refine yu (n:=Tryz.f111.ntmps) (c:=q111) (t:=2) (by rw [hP];rfl) (by rw [hP];kernel_rfl) (by decide) (Nat.le_of_ble_eq_true rfl) ?_
 generalize hρ:entry _=ρ
 have h0:ρ 0=.isl []:=by rw [<-hρ];rfl
 clear hρ
 unfold q111
 simp only [h0,go_sem,Nat.reduceEqDiff,reduceIte,Nat.reduceAdd]
 refine ⟨?_,fun _=>rfl⟩
 refine z2H (rows:=[]) rfl rfl rfl ?_
 simp only [go_sem,Nat.reduceEqDiff,reduceIte]
 rfl
def Yo (L0 L:List Blk) (b x:Nat) (l:List OpV) (sz:Int):Prop:=∃F,ZE L b x l sz F/\(∀u,F u->L0.length<=u)/\Keep none' L0 L
theorem Yo.step {L0 L':List Blk} {b x:Nat} {l':List OpV} {sz':Int} {F F':Nat->Prop} (h:∀u,F u->L0.length<=u) (hk0:Keep none' L0 L) (hB:ZE L' b x l' sz' F') (hG:Grown F F' L L') (hk:Keep F L L'):Yo L0 L' b x l' sz':=by
 refine ⟨F',hB,fun u hu=>?_,hk0.trans hk fun t ht hF=>?_⟩
 ·rcases hG u hu with h1 | ⟨h1,_⟩
  ·exact h u h1
  ·exact Nat.le_trans hk0.1 h1
 ·have:=h t hF;omega
theorem Yo.keep {L0 L':List Blk} {b x:Nat} {l:List OpV} {sz:Int} (h:Yo L0 L b x l sz) (hk:Keep none' L L'):Yo L0 L' b x l sz:=by
 obtain ⟨F,h1,h2,h3⟩:=h
 exact ⟨F,h1.keep hk fun _ _ h=>h,h2,h3.trans hk fun _ _ h=>h⟩
theorem Yo.get {L0:List Blk} {b x t:Nat} {l:List OpV} {sz:Int} {k:Blk} (h:Yo L0 L b x l sz) (hk:L0[t]?=some k):L[t]?=some k:=by
 obtain ⟨F,_,_,h3⟩:=h
 exact h3.get hk fun h=>h
theorem JE (hP:E.P=Tryz.prog) {L0:List Blk} {b x:Nat} {l:List OpV} {sz:Int} {k s:List UInt8} {w:IV} (h:Yo L0 L b x l sz) (hw:∀M,Keep none' L M->(yx M w).bind (mapO byteOf)=some s) (hN:l.length<=100000) :
  XT E 41 [.ptr b 0 0,.str k,w] L fun r L'=>r=.tup []/\Yo L0 L' b x (l++[⟨k,s,false⟩]) sz:=by
 obtain ⟨F,h1,h2,h3⟩:=h
 refine (z1l hP h1 hw hN).mono ?_
 rintro r L' ⟨rfl,⟨F',g1,g2⟩,g3⟩
 exact ⟨rfl,Yo.step h2 h3 g1 g2 g3⟩
theorem z1v (hP:E.P=Tryz.prog) {L0:List Blk} {b x n:Nat} {l:List OpV} {sz:Int} {w:IV} (h:Yo L0 L b x l sz) (hw:lenOf w=some n) (h0:0<=sz) (h1:sz+n<=1000000000) :
  XT E 40 [.ptr b 0 0,w,.int .i64 0] L fun r L'=>r=.tup []/\Yo L0 L' b x l (sz+n):=by
 obtain ⟨F,g1,g2,g3⟩:=h
 refine (z5B hP g1 hw h0 h1).mono ?_
 rintro r L' ⟨rfl,e1,e2,e3⟩
 exact ⟨rfl,Yo.step g2 g3 e1 Grown.refl e2⟩
theorem z6E (hP:E.P=Tryz.prog) {L0:List Blk} {b x n:Nat} {l:List OpV} {sz:Int} {k:List UInt8} (h:Yo L0 L b x l sz) (hn:n<=4503599627370496) (hN:l.length<=100000) :
  XT E 27 [.ptr b 0 0,.str k,.int .i64 n] L fun r L'=>r=.tup []/\Yo L0 L' b x (l++[⟨k,strOf (numR n),false⟩]) sz:=by
 obtain ⟨F,h1,h2,h3⟩:=h
 refine (z16 hP h1 hn hN).mono ?_
 rintro r L' ⟨rfl,⟨F',g1,g2⟩,g3⟩
 exact ⟨rfl,Yo.step h2 h3 g1 g2 g3⟩
theorem z5m (hP:E.P=Tryz.prog) {x:Nat}:XT E 26 [.ptr x 0 0] L fun r L'=>∃b,r=.ptr b 0 0/\Yo L L' b x [] 0:=by
 refine (z5S hP).mono ?_
 rintro r L' ⟨b,rfl,⟨F,h1,h2⟩,h3⟩
 exact ⟨b,rfl,F,h1,fun u hu=>(h2 u hu).1,h3⟩
theorem z6K (hP:E.P=Tryz.prog) {b c:Nat}:XT E 47 [.ptr b 0 0,.ptr c 0 0,.nsl] L fun r L'=>r=.tup [.isl [],.int .i64 0]/\L'=L:=by
 refine xt3 (fn:=Tryz.f47) (rs:=[.tmp 6,.tmp 7]) (c:=q47) hP fun ρ h0 h1 h2=>?_
 unfold q47
 simp only [h2,go_sem,Nat.reduceEqDiff,reduceIte]
 refine Y9 (args':=[.isl []]) rfl (z3K (E:=E.noPan) hP) rfl rfl ?_
 have ln:lenOf (.isl [])=some 0:=rfl
 simp only [zC ln,go_sem,Nat.reduceEqDiff,reduceIte]
 refine zT (fun n ρ M=>n=0/\M=L/\ρ 8=.isl []/\ρ 18=.int .i64 0/\ρ 19=.int .i64 0) ⟨rfl,rfl,by simp only [go_sem,Nat.reduceEqDiff,reduceIte],by simp only [go_sem,Nat.reduceEqDiff,reduceIte]<;>rfl,by simp only [go_sem,Nat.reduceEqDiff,reduceIte]⟩ ?_
 clear h0 h1 h2 ρ
 rintro n ρ M ⟨rfl,rfl,h8,h18,h19⟩
 simp only [h8,h18,h19,go_sem,Nat.reduceEqDiff,reduceIte,Int.reduceLT]
def opsA (st:StV) (src seq:Nat):List OpV:=[⟨[110,47,48,48,48],faa,false⟩,⟨[115,47,48,48,48],strOf st.bytes,false⟩]++if seq=0 then [] else [⟨yC src,strOf (numR seq),false⟩]
theorem z3M (M:List Blk) (g:Nat) (h:M[g]?=some (.tcells 5 1 (zi faa))):(yx M (.sl g 0 faa.length faa.length)).bind (mapO byteOf)=some faa:=by
 show (rowsOf M (.sl g 0 faa.length faa.length)).bind (mapO byteOf)=some faa
 rw [WY h (by simp [zi])]
 exact Yr faa
theorem z5y (hP:E.P=Tryz.prog) {x s c t n re im N:Nat} {F:Nat->Prop} {d:KV} {kn:Option StV} {st:StV} {ex src seq:Nat} (hx:L[x]?=some (exB s)) (hc:L[c]?=some (ctxB t s n re im true)) (hS:zt L s F N n d) (hFc:¬F c)
  (hN:d.length<=800000) (hN2:N+1000000<=1099511627776) (hf:Y2 d kn) (hst:st.ok) (hex:(kn.getD YH).ev=ex) (hse:st.ev=ex) (hsz:ex<=1000000) (hq:zdX d src seq) (hsm:st.bytes.length<=65000) (hq3:seq<=1000000) :
  XT E 10 [.ptr x 0 0,.ptr c 0 0,.agg (updC ex .nsl st .nsl [] [] src seq)] L fun r L'=>r=.tup [.isl [],.int .i64 0]/\(∃F',zt L' s F' (N+1000000) n (d.puts (opsA st src seq))/\Grown F F' L L')/\Keep F L L':=by
 refine xt3 (fn:=Tryz.f10) (rs:=[.tmp 6,.tmp 7]) (c:=q10) hP fun ρ h0 h1 h2=>?_
 unfold q10
 have hce:cellsOf (.agg [.str faa,.int .i64 ex,.nsl,.str st.dfn,.str st.id,.str st.par,.str st.pn,.int .i64 st.st,.str st.txt,.nsl,.nsl,.int .i64 st.ev,.nsl,.str [],.str [],.int .i64 src,.int .i64 seq])=[.str faa,.int .i64 ex,.nsl,.str st.dfn,.str st.id,.str st.par,.str st.pn,.int .i64 st.st,.str st.txt,.nsl,.nsl,.int .i64 st.ev,.nsl,.str [],.str [],.int .i64 src,.int .i64 seq]:=rfl
 unfold updC at h2
 simp only [h0,h1,h2,hce,go_sem,Nat.reduceEqDiff,reduceIte,Nat.reduceAdd]
 obtain ⟨u,hu⟩:∃u,L.length=u:=⟨_,rfl⟩
 have kA:Keep none' L (L++[Blk.cells 17 [[.str faa,.int .i64 ex,.nsl,.str st.dfn,.str st.id,.str st.par,.str st.pn,.int .i64 st.st,.str st.txt,.nsl,.nsl,.int .i64 st.ev,.nsl,.str [],.str [],.int .i64 src,.int .i64 seq]]]):=Keep.app Keep.refl
 have gA:(L++[Blk.cells 17 [[.str faa,.int .i64 ex,.nsl,.str st.dfn,.str st.id,.str st.par,.str st.pn,.int .i64 st.st,.str st.txt,.nsl,.nsl,.int .i64 st.ev,.nsl,.str [],.str [],.int .i64 src,.int .i64 seq]]])[u]?=some (.cells 17 [[.str faa,.int .i64 ex,.nsl,.str st.dfn,.str st.id,.str st.par,.str st.pn,.int .i64 st.st,.str st.txt,.nsl,.nsl,.int .i64 st.ev,.nsl,.str [],.str [],.int .i64 src,.int .i64 seq]]):=by rw [<-hu];simp
 rw [hu]
 generalize hLA:L++[Blk.cells 17 [[.str faa,.int .i64 ex,.nsl,.str st.dfn,.str st.id,.str st.par,.str st.pn,.int .i64 st.st,.str st.txt,.nsl,.nsl,.int .i64 st.ev,.nsl,.str [],.str [],.int .i64 src,.int .i64 seq]]]=LA at *
 have hxA:=kA.get hx fun h=>h
 have hcA:=kA.get hc fun h=>h
 have hSA:zt LA s F N n d:=hS.keep kA fun _ _ h=>h
 have lxA:=zg hxA
 have lA:=zg gA
 refine zh (JD (E:=E.noPan) hP hxA hcA) ?_
 rintro r L1 ⟨rfl,rfl⟩
 simp only [gA,go_sem,Nat.reduceEqDiff,reduceIte,Nat.reduceAdd,Nat.reduceLT]
 refine Zt (args':=[.str faa]) rfl (Wn (E:=E.noPan) hP) (fun _=>rfl) ?_
 have hxA1:=hxA
 unfold exB at hxA1
 simp only [h0,gA,hxA1,go_sem,Nat.reduceEqDiff,reduceIte,Nat.reduceAdd,Nat.reduceLT]
 refine Zt (args':=[.str faa,.int .i64 3]) rfl (Yy (E:=E.noPan) hP) (fun _=>rfl) ?_
 simp only [h0,gA,hxA1,go_sem,Nat.reduceEqDiff,reduceIte,Nat.reduceAdd,Nat.reduceLT]
 refine zh (YL (E:=E.noPan) hP hxA hSA (by omega) hf) ?_
 rintro r L' ⟨rfl,rfl⟩
 simp only [h0,gA,go_sem,Nat.reduceEqDiff,reduceIte,Nat.reduceAdd,Nat.reduceLT]
 refine zh (z7R (E:=E.noPan) (ne:=0) hP hxA hSA (by omega) hf rfl rfl rfl hex (by omega) (by omega) (Nat.zero_le _) hq) ?_
 rintro r L2 ⟨rfl,rfl⟩
 simp only [h0,go_sem,Nat.reduceEqDiff,reduceIte]
 refine zh (z5m (E:=E.noPan) hP) ?_
 rintro r LB ⟨b,rfl,hB⟩
 have gB:=hB.get gA
 have lB:=zg gB
 have ln:lenOf .nsl=some 0:=rfl
 simp only [gB,zC ln,go_sem,Nat.reduceEqDiff,reduceIte,Nat.reduceAdd,Nat.reduceLT]
 refine zT (fun m ρ M=>m=0/\M=LB/\ρ 0=.ptr x 0 0/\ρ 1=.ptr c 0 0/\ρ 5=.ptr u 0 0/\ρ 9=.int .i64 0/\ρ 12=.ptr b 0 0/\ρ 68=.int .i64 0/\ρ 69=.int .i64 0) ⟨rfl,rfl,by simp only [h0,go_sem,Nat.reduceEqDiff,reduceIte],by simp only [h1,go_sem,Nat.reduceEqDiff,reduceIte],by simp only [go_sem,Nat.reduceEqDiff,reduceIte],by simp only [go_sem,Nat.reduceEqDiff,reduceIte],by simp only [go_sem,Nat.reduceEqDiff,reduceIte],by simp only [go_sem,Nat.reduceEqDiff,reduceIte]<;>rfl,by simp only [go_sem,Nat.reduceEqDiff,reduceIte]⟩ ?_
 clear h0 h1 h2 ρ
 rintro m ρ M ⟨rfl,rfl,h0,h1,h5,h9,h12,h68,h69⟩
 simp only [h5,h68,h69,gB,go_sem,Nat.reduceEqDiff,reduceIte,Int.reduceLT,Nat.reduceAdd,Nat.reduceLeDiff]
 have hstw:Plain st.bytes:=hst.plain
 refine zh (z5a (E:=E.noPan) (s:=st) (v:=.nsl) (w:=.nsl) hP rfl rfl hst) ?_
 rintro r M2 ⟨rfl,rfl⟩
 simp only [h12,go_sem,Nat.reduceEqDiff,reduceIte,Int.reduceLT,Nat.reduceAdd,Nat.reduceLT]
 refine zh (z1v (E:=E.noPan) (w:=.isl st.bytes) (n:=st.bytes.length) hP hB rfl (by omega) (by omega)) ?_
 rintro r M3 ⟨rfl,hB3⟩
 have g3:=hB3.get gA
 have l3:=zg g3
 clear hB gB lB
 simp only [h9,h12,go_sem,Nat.reduceEqDiff,reduceIte,Int.reduceLT]
 refine Zt (args':=[.int .i64 0]) rfl (vC (E:=E.noPan) hP) (fun _=>rfl) ?_
 have hfl:(faa.length<=9223372036854775807)=True:=eq_true (by decide)
 simp only [h5,g3,hfl,go_sem,Nat.reduceEqDiff,reduceIte,Int.reduceLT,Nat.reduceAdd,Nat.reduceLT]
 refine zh (JE (E:=E.noPan) (s:=faa) hP (hB3.keep (Keep.app Keep.refl)) (fun M hM=>z3M M _ (hM.get (by simp) fun h=>h)) (by simp)) ?_
 rintro r M4 ⟨rfl,hB4⟩
 clear hB3 g3 l3
 simp only [h9,h12,go_sem,Nat.reduceEqDiff,reduceIte,Int.reduceLT]
 refine zq (args':=[.int .i64 0]) rfl (YA (E:=E.noPan) hP) rfl ?_
 simp only [go_sem,Nat.reduceEqDiff,reduceIte,Int.reduceLT]
 refine zh (JE (E:=E.noPan) (s:=strOf st.bytes) hP hB4 (fun M _=>hstw.str) (by simp)) ?_
 rintro r M5 ⟨rfl,hB5⟩
 clear hB4
 have g5:=hB5.get gA
 have l5:=zg g5
 simp only [h5,g5,zC ln,go_sem,Nat.reduceEqDiff,reduceIte,Int.reduceLT,Nat.reduceAdd,Nat.reduceLT]
 refine zT (fun m ρ M=>m=0/\M=M5/\ρ 0=.ptr x 0 0/\ρ 1=.ptr c 0 0/\ρ 5=.ptr u 0 0/\ρ 9=.int .i64 0/\ρ 12=.ptr b 0 0/\ρ 117=.int .i64 0/\ρ 118=.int .i64 0) ⟨rfl,rfl,by simp only [h0,go_sem,Nat.reduceEqDiff,reduceIte],by simp only [h1,go_sem,Nat.reduceEqDiff,reduceIte],by simp only [h5,go_sem,Nat.reduceEqDiff,reduceIte],by simp only [h9,go_sem,Nat.reduceEqDiff,reduceIte],by simp only [h12,go_sem,Nat.reduceEqDiff,reduceIte],by simp only [go_sem,Nat.reduceEqDiff,reduceIte]<;>rfl,by simp only [go_sem,Nat.reduceEqDiff,reduceIte]⟩ ?_
 clear h0 h1 h5 h9 h12 h68 h69 ρ
 rintro m ρ M5 ⟨rfl,rfl,h0,h1,h5,h9,h12,h117,h118⟩
 have e0:(0:Int)+(st.bytes.length:Int)=(st.bytes.length:Int):=by omega
 rw [e0] at hB5
 have hnot:∃F v m,M5[b]?=some (.cells 5 [[.ptr x 0 0,v,.mp m,.int .i64 st.bytes.length,.bool false]])/\ZE M5 b x [⟨[110,47,48,48,48],faa,false⟩,⟨[115,47,48,48,48],strOf st.bytes,false⟩] st.bytes.length F:=by
  obtain ⟨F,⟨v,m,h1,h2⟩,_⟩:=id hB5
  exact ⟨F,v,m,h1,v,m,h1,h2⟩
 obtain ⟨F5,v5,m5,hb5,_⟩:=hnot
 have lb5:=zg hb5
 have f1:((65000:Int)<(st.bytes.length:Int))=False:=eq_false (by omega)
 simp only [h1,h5,h12,h117,h118,g5,hb5,f1,go_sem,Nat.reduceEqDiff,reduceIte,Int.reduceLT,Nat.reduceAdd,Nat.reduceLT]
 refine zh (z6K (E:=E.noPan) hP) ?_
 rintro r M6 ⟨rfl,rfl⟩
 rcases hq with hqz | ⟨hsrc,mk,hmk,hmq⟩
 ·have eA:([⟨[110,47,48,48,48],faa,false⟩,⟨[115,47,48,48,48],strOf st.bytes,false⟩]:List OpV)=opsA st src seq:=by simp [opsA,hqz]
  have hB6:=hB5
  rw [show ([]++[⟨[110,47,48,48,48],faa,false⟩]++[⟨[115,47,48,48,48],strOf st.bytes,false⟩]:List OpV)=opsA st src seq from eA] at hB6
  have hq0:((0:Int)<(seq:Int))=False:=eq_false (by omega)
  simp only [h1,h5,h12,g5,hq0,go_sem,Nat.reduceEqDiff,reduceIte,Int.reduceLT,Nat.reduceAdd,Nat.reduceLT]
  have g6:=hB6.get gA
  have l6:=zg g6
  obtain ⟨F6,⟨v6,m6,hb6,hm6,hv6,rfl⟩,q2,q3⟩:=id hB6
  have lb6:=zg hb6
  rcases hv6 with ⟨_,hbad⟩ | ⟨g,rfl,hg,hne⟩
  ·simp [opsA] at hbad
  have hgA:=q2 g (.inr (.inr ⟨_,rfl⟩))
  have kA6:Keep none' L M6:=kA.trans q3 fun _ _ h=>h
  have hFlt:=hS.lt.2.2
  have hlen3:(opsA st src seq).length<=3:=by unfold opsA;split<;>simp
  have hfit:∀q∈opsA st src seq,q.fit/\q.gone=false/\q.key.length+q.val.length<=70000:=by
   intro q hq
   have hpn:=Zp (n:=seq) (by omega)
   have hln:=z1W (n:=seq) (by omega)
   have hqq:q=⟨[110,47,48,48,48],faa,false⟩\/q=⟨[115,47,48,48,48],strOf st.bytes,false⟩\/q=⟨yC src,strOf (numR seq),false⟩:=by
    unfold opsA at hq
    rcases List.mem_append.1 hq with hq | hq
    ·simp only [List.mem_cons,List.not_mem_nil,or_false] at hq
     rcases hq with h | h
     ·exact .inl h
     ·exact .inr (.inl h)
    ·by_cases hz:seq=0
     ·rw [if_pos hz] at hq;cases hq
     ·rw [if_neg hz] at hq;exact .inr (.inr (List.mem_singleton.1 hq))
   rcases hqq with rfl | rfl | rfl
   ·exact ⟨⟨by decide,by decide,by decide,fun h=>by cases h⟩,rfl,by decide⟩
   ·refine ⟨⟨List.cons_ne_nil _ _,(show ([115,47,48,48,48]:List UInt8).length<=200 by decide),?_,fun h=>by cases h⟩,rfl,?_⟩
    ·show (strOf st.bytes).length<=_
     rw [hstw.len];omega
    ·show 5+(strOf st.bytes).length<=_
     rw [hstw.len];omega
   ·refine ⟨⟨(show yC src≠[] by unfold yC;exact List.cons_ne_nil _ _),(show (yC src).length<=200 by exact Nat.le_of_ble_eq_true rfl),?_,fun h=>by cases h⟩,rfl,?_⟩
    ·show (strOf (numR seq)).length<=_
     rw [hpn.len];omega
    ·show 4+(strOf (numR seq)).length<=_
     rw [hpn.len];omega
  have hob:=Js (l:=opsA st src seq) (m:=70000) (by omega) fun q hq=>⟨(hfit q hq).1.ok,(hfit q hq).2.2⟩
  have hob2:(opsA st src seq).length*(70000+17)<=3*70017:=Nat.mul_le_mul hlen3 (Nat.le_refl _)
  simp only [hb6,go_sem,Nat.reduceEqDiff,reduceIte,Int.reduceLT,Nat.reduceAdd,Nat.reduceLT]
  refine zh (Ws (E:=E.noPan) (l:=opsA st src seq) hP (kA6.get hc fun h=>h) (hS.keep kA6 fun _ _ h=>h) hFc hg (fun h=>by have:=hFlt _ h;have:=kA.1;omega) hne (by omega) (fun q hq=>(hfit q hq).1) (fun q hq=>(hfit q hq).2.1) (by omega) (by omega) (by omega)) ?_
  rintro r M7 ⟨rfl,⟨F7,hS7,hG7⟩,hk7⟩
  simp only [go_sem,Nat.reduceEqDiff,reduceIte,Int.reduceLT]
  refine ⟨⟨F7,hS7.mono (by omega),fun w hw=>?_⟩,(kA6.mono (F':=F) fun _ _ h=>h.elim).trans hk7 fun _ _ h=>h⟩
  rcases hG7 w hw with h | h
  ·exact .inl h
  ·right;have:=kA6.1;omega
 ·have hq0:((0:Int)<(seq:Int))=True:=eq_true (by omega)
  simp only [h5,h12,g5,hq0,go_sem,Nat.reduceEqDiff,reduceIte,Int.reduceLT,Nat.reduceAdd,Nat.reduceLT]
  refine Zt (args':=[.int .i64 src]) rfl (wY (E:=E.noPan) hP hsrc) (fun _=>rfl) ?_
  simp only [h5,g5,go_sem,Nat.reduceEqDiff,reduceIte,Int.reduceLT,Nat.reduceAdd,Nat.reduceLT]
  refine zh (z6E (E:=E.noPan) (n:=seq) hP hB5 (by omega) (by simp)) ?_
  rintro r M6 ⟨rfl,hB6⟩
  have eA:([⟨[110,47,48,48,48],faa,false⟩,⟨[115,47,48,48,48],strOf st.bytes,false⟩]:List OpV)++[⟨yC src,strOf (numR seq),false⟩]=opsA st src seq:=by unfold opsA;rw [if_neg (by omega)]
  rw [show ([]++[⟨[110,47,48,48,48],faa,false⟩]++[⟨[115,47,48,48,48],strOf st.bytes,false⟩]:List OpV)++[⟨yC src,strOf (numR seq),false⟩]=opsA st src seq from eA] at hB6
  have g6:=hB6.get gA
  have l6:=zg g6
  obtain ⟨F6,⟨v6,m6,hb6,hm6,hv6,rfl⟩,q2,q3⟩:=id hB6
  have lb6:=zg hb6
  rcases hv6 with ⟨_,hbad⟩ | ⟨g,rfl,hg,hne⟩
  ·simp [opsA] at hbad
  have hgA:=q2 g (.inr (.inr ⟨_,rfl⟩))
  have kA6:Keep none' L M6:=kA.trans q3 fun _ _ h=>h
  have hFlt:=hS.lt.2.2
  have hlen3:(opsA st src seq).length<=3:=by unfold opsA;split<;>simp
  have hfit:∀q∈opsA st src seq,q.fit/\q.gone=false/\q.key.length+q.val.length<=70000:=by
   intro q hq
   have hpn:=Zp (n:=seq) (by omega)
   have hln:=z1W (n:=seq) (by omega)
   have hqq:q=⟨[110,47,48,48,48],faa,false⟩\/q=⟨[115,47,48,48,48],strOf st.bytes,false⟩\/q=⟨yC src,strOf (numR seq),false⟩:=by
    unfold opsA at hq
    rcases List.mem_append.1 hq with hq | hq
    ·simp only [List.mem_cons,List.not_mem_nil,or_false] at hq
     rcases hq with h | h
     ·exact .inl h
     ·exact .inr (.inl h)
    ·by_cases hz:seq=0
     ·rw [if_pos hz] at hq;cases hq
     ·rw [if_neg hz] at hq;exact .inr (.inr (List.mem_singleton.1 hq))
   rcases hqq with rfl | rfl | rfl
   ·exact ⟨⟨by decide,by decide,by decide,fun h=>by cases h⟩,rfl,by decide⟩
   ·refine ⟨⟨List.cons_ne_nil _ _,(show ([115,47,48,48,48]:List UInt8).length<=200 by decide),?_,fun h=>by cases h⟩,rfl,?_⟩
    ·show (strOf st.bytes).length<=_
     rw [hstw.len];omega
    ·show 5+(strOf st.bytes).length<=_
     rw [hstw.len];omega
   ·refine ⟨⟨(show yC src≠[] by unfold yC;exact List.cons_ne_nil _ _),(show (yC src).length<=200 by exact Nat.le_of_ble_eq_true rfl),?_,fun h=>by cases h⟩,rfl,?_⟩
    ·show (strOf (numR seq)).length<=_
     rw [hpn.len];omega
    ·show 4+(strOf (numR seq)).length<=_
     rw [hpn.len];omega
  have hob:=Js (l:=opsA st src seq) (m:=70000) (by omega) fun q hq=>⟨(hfit q hq).1.ok,(hfit q hq).2.2⟩
  have hob2:(opsA st src seq).length*(70000+17)<=3*70017:=Nat.mul_le_mul hlen3 (Nat.le_refl _)
  simp only [h1,h5,h12,g6,hb6,go_sem,Nat.reduceEqDiff,reduceIte,Int.reduceLT,Nat.reduceAdd,Nat.reduceLT]
  refine zh (Ws (E:=E.noPan) (l:=opsA st src seq) hP (kA6.get hc fun h=>h) (hS.keep kA6 fun _ _ h=>h) hFc hg (fun h=>by have:=hFlt _ h;have:=kA.1;omega) hne (by omega) (fun q hq=>(hfit q hq).1) (fun q hq=>(hfit q hq).2.1) (by omega) (by omega) (by omega)) ?_
  rintro r M7 ⟨rfl,⟨F7,hS7,hG7⟩,hk7⟩
  simp only [go_sem,Nat.reduceEqDiff,reduceIte,Int.reduceLT]
  refine ⟨⟨F7,hS7.mono (by omega),fun w hw=>?_⟩,(kA6.mono (F':=F) fun _ _ h=>h.elim).trans hk7 fun _ _ h=>h⟩
  rcases hG7 w hw with h | h
  ·exact .inl h
  ·right;have:=kA6.1;omega
theorem z7z (hP:E.P=Tryz.prog) {x s c t n re im N m:Nat} {F:Nat->Prop} {d:KV} {kn:Option StV} {st:StV} {ex src seq:Nat} (hx:L[x]?=some (exB s)) (hc:L[c]?=some (ctxB t s n re im true)) (hS:zt L s F N n d)
  (hN:d.length<=800000) (hf:Y2 d kn) (hex:(kn.getD YH).ev=ex) (hse:st.ev=ex) (hsz:ex<=1000000) (hsrc:src<3) (hm:WF d (yC src) m) (hq0:0<seq) (hq1:seq≠m+1) :
  XT E 10 [.ptr x 0 0,.ptr c 0 0,.agg (updC ex .nsl st .nsl [] [] src seq)] L fun r L'=>r=.tup [.isl [],.int .i64 14]/\L'=L:=by
 refine Z7 (R:=fun r L'=>r=.tup [.nsl,.int .i64 14]/\Keep none' L L') ?_ ?_
 rotate_left
 ·rintro r L' ⟨rfl,hk⟩
  exact ⟨hk,_,rfl,rfl⟩
 refine xt3 (fn:=Tryz.f10) (rs:=[.tmp 6,.tmp 7]) (c:=q10) hP fun ρ h0 h1 h2=>?_
 unfold q10
 have hce:cellsOf (.agg [.str faa,.int .i64 ex,.nsl,.str st.dfn,.str st.id,.str st.par,.str st.pn,.int .i64 st.st,.str st.txt,.nsl,.nsl,.int .i64 st.ev,.nsl,.str [],.str [],.int .i64 src,.int .i64 seq])=[.str faa,.int .i64 ex,.nsl,.str st.dfn,.str st.id,.str st.par,.str st.pn,.int .i64 st.st,.str st.txt,.nsl,.nsl,.int .i64 st.ev,.nsl,.str [],.str [],.int .i64 src,.int .i64 seq]:=rfl
 unfold updC at h2
 simp only [h0,h1,h2,hce,go_sem,Nat.reduceEqDiff,reduceIte,Nat.reduceAdd]
 obtain ⟨u,hu⟩:∃u,L.length=u:=⟨_,rfl⟩
 have kA:Keep none' L (L++[Blk.cells 17 [[.str faa,.int .i64 ex,.nsl,.str st.dfn,.str st.id,.str st.par,.str st.pn,.int .i64 st.st,.str st.txt,.nsl,.nsl,.int .i64 st.ev,.nsl,.str [],.str [],.int .i64 src,.int .i64 seq]]]):=Keep.app Keep.refl
 have gA:(L++[Blk.cells 17 [[.str faa,.int .i64 ex,.nsl,.str st.dfn,.str st.id,.str st.par,.str st.pn,.int .i64 st.st,.str st.txt,.nsl,.nsl,.int .i64 st.ev,.nsl,.str [],.str [],.int .i64 src,.int .i64 seq]]])[u]?=some (.cells 17 [[.str faa,.int .i64 ex,.nsl,.str st.dfn,.str st.id,.str st.par,.str st.pn,.int .i64 st.st,.str st.txt,.nsl,.nsl,.int .i64 st.ev,.nsl,.str [],.str [],.int .i64 src,.int .i64 seq]]):=by rw [<-hu];simp
 rw [hu]
 generalize hLA:L++[Blk.cells 17 [[.str faa,.int .i64 ex,.nsl,.str st.dfn,.str st.id,.str st.par,.str st.pn,.int .i64 st.st,.str st.txt,.nsl,.nsl,.int .i64 st.ev,.nsl,.str [],.str [],.int .i64 src,.int .i64 seq]]]=LA at *
 have hxA:=kA.get hx fun h=>h
 have hcA:=kA.get hc fun h=>h
 have hSA:zt LA s F N n d:=hS.keep kA fun _ _ h=>h
 have lxA:=zg hxA
 have lA:=zg gA
 refine zh (JD (E:=E.noPan) hP hxA hcA) ?_
 rintro r L1 ⟨rfl,rfl⟩
 simp only [gA,go_sem,Nat.reduceEqDiff,reduceIte,Nat.reduceAdd,Nat.reduceLT]
 refine Zt (args':=[.str faa]) rfl (Wn (E:=E.noPan) hP) (fun _=>rfl) ?_
 have hxA1:=hxA
 unfold exB at hxA1
 simp only [h0,gA,hxA1,go_sem,Nat.reduceEqDiff,reduceIte,Nat.reduceAdd,Nat.reduceLT]
 refine Zt (args':=[.str faa,.int .i64 3]) rfl (Yy (E:=E.noPan) hP) (fun _=>rfl) ?_
 simp only [h0,gA,hxA1,go_sem,Nat.reduceEqDiff,reduceIte,Nat.reduceAdd,Nat.reduceLT]
 refine zh (YL (E:=E.noPan) hP hxA hSA (by omega) hf) ?_
 rintro r L' ⟨rfl,rfl⟩
 simp only [h0,gA,go_sem,Nat.reduceEqDiff,reduceIte,Nat.reduceAdd,Nat.reduceLT]
 refine zh (zbD (E:=E.noPan) (ne:=0) hP hxA hSA (by omega) hf rfl rfl rfl hex (by omega) (by omega) (Nat.zero_le _) hsrc hm hq0 hq1) ?_
 rintro r L2 ⟨rfl,rfl⟩
 simp only [go_sem,Nat.reduceEqDiff,reduceIte,Int.reduceEq]
 exact kA
end
end Go.X.TryzW
end
section
open Go Go.X Go.Proofs
set_option maxRecDepth 100000
set_option maxHeartbeats 4000000
namespace Go.X.TryzW
def q39 : XC :=(sO [oO 1 (.box (.t 0)),oV 2 .nsl,oI 3 0] (sO [oO 4 (.mkfn (.func 101) [] [.t 1]),oC 5 100 [.t 4],oX 6 0 5,oX 7 1 5,oM 2 6,oM 3 7] .ret))
def q101 : XC :=(sO [oM 3 0,oF 4 0 1,oL 5 4,oC 6 102 [.t 3,.t 5,(oi 1),(oi 15)]] (sO [oM 7 0,oF 8 1 1,oL 9 8,oF 10 2 1,oL 11 10,oO 12 (.bslice 1 [(.str [])] 2 [(0,(.t 9)),(1,(.t 11))]),oC 13 103 [.t 7,.t 12]] (.ops [oM 14 0,oF 15 3 1,oL 16 15,oC 17 104 [.t 14,.t 16]])))
def q46 : XC :=(sO [oO 1 (.box (.t 0)),oV 2 .nsl,oI 3 0] (sO [oO 4 (.mkfn (.func 108) [] [.t 1]),oC 5 100 [.t 4],oX 6 0 5,oX 7 1 5,oM 2 6,oM 3 7] .ret))
def q108 : XC :=(sO [oM 3 0,oF 4 0 1,oL 5 4,oC 6 102 [.t 3,.t 5,(oi 1),(oi 3)]] (sO [oM 7 0,oF 8 1 1,oL 9 8,oC 10 109 [.t 7,.t 9]] (sO [oM 11 0,oF 12 2 1,oL 13 12,oF 14 3 1,oL 15 14,oO 16 (.bslice 1 [(.str [])] 2 [(0,(.t 13)),(1,(.t 15))]),oC 17 103 [.t 11,.t 16]] (sO [oM 18 0,oF 19 4 1,oL 20 19,oC 21 107 [.t 18,.t 20]] (sO [oM 22 0,oF 23 5 1,oL 24 23,oC 25 107 [.t 22,.t 24]] (.ops [oM 26 0,oF 27 6 1,oO 28 (.loadN 7 (.t 27)),oC 29 110 [.t 26,.t 28]]))))))
def q109 : XC :=(sO [oM 8 1,oC 9 176 [.t 8],oM 7 9,oX 10 0 7,oX 11 1 7,oX 12 2 7,oM 4 10,oM 5 11,oM 6 12] (.seq (sO [oM 13 6,oO 14 (.un .not (.t 13))] (cT 14 (.ops [oO 15 (.build [(.int .i64 0)] []),oO 16 (.ex (.mkif 274) [.t 15]),oU (.ex .panic [.t 16])]) .skip)) (sO [oM 17 0,oM 18 4,oC 19 107 [.t 17,.t 18]] (.ops [oM 20 0,oM 21 5,oC 22 107 [.t 20,.t 21]]))))
def q110 : XC :=(sO [oO 3 (.box (.t 1))] (sO [oM 4 0,oF 5 0 3,oL 6 5,oC 7 102 [.t 4,.t 6,(oi 0),(oi 4)]] (.seq (sO [oF 8 0 3,oL 9 8,oK 10 .eql 9 0] (cT 10 (.seq (sO [oO 11 (.loadN 7 (.t 3)),oO 12 (.build [(.int .i64 0),(.str []),(.str []),(.str []),(.str []),(.str []),(.int .i64 0)] []),oO 13 (.ex (.eqA true [0,1,1,1,1,1,0]) [.t 11,.t 12])] (cT 13 (.ops [oO 14 (.build [(.int .i64 0)] []),oO 15 (.ex (.mkif 274) [.t 14]),oU (.ex .panic [.t 15])]) .skip)) .ret) .skip)) (sO [oM 16 0,oF 17 1 3,oL 18 17,oF 19 2 3,oL 20 19,oF 21 3 3,oL 22 21,oF 23 4 3,oL 24 23,oF 25 5 3,oL 26 25,oO 27 (.bslice 1 [(.str [])] 5 [(0,(.t 18)),(1,(.t 20)),(2,(.t 22)),(3,(.t 24)),(4,(.t 26))]),oC 28 103 [.t 16,.t 27]] (.ops [oM 29 0,oF 30 6 3,oL 31 30,oC 32 102 [.t 29,.t 31,(oi 0),(oi 4)]])))))
section
variable {E:Env} {ρ:Rho} {L:List Blk} {K:IV->List Blk->Prop}
structure EvV where
 kind:Nat
 node:List UInt8
 txt:List UInt8
 num:Int
def EvV.cells (e:EvV):List IV:=[.int .i64 e.kind,.str e.node,.str e.txt,.int .i64 e.num]
def EvV.ok (e:EvV):Prop:=1<=e.kind/\e.kind<=15/\e.node.length<=100000/\e.txt.length<=100000 /\ -2251799813685248<=e.num/\e.num<=2251799813685248
def EvV.bytes (e:EvV):List (List IV):=numR e.kind++[e.node,e.txt].flatMap txtR++numR (sgnN e.num)
theorem EvV.bytes_ne (e:EvV):e.bytes≠[]:=by simp [EvV.bytes,numR]
theorem z3r (hP:E.P=Tryz.prog) {L1:List Blk} {p:Nat} {l:List (List UInt8)} {bs:List (List IV)} (h:yg L1 L p bs) (hl:l.length<=1000) (hs:∀s∈l,s.length<=100000) (hN:bs.length+1000000000<=70368744177664) :
  XT E 103 [.ptr p 0 0,.sl L.length 0 l.length l.length] (L++[.cells 1 (l.map fun s=>[.str s])]) fun r L'=>r=.tup []/\yg L1 L' p (bs++l.flatMap txtR):=by
 obtain ⟨F,h1,h2,h3⟩:=h
 have hlt:=h1.lt
 have k:Keep none' L (L++[Blk.cells 1 (l.map fun s=>[IV.str s])]):=Keep.app Keep.refl
 refine (z5R hP (h1.keep k fun _ _ h=>h) (by simp) (fun h=>by have:=hlt.2.2 _ h;omega) hl hs hN).mono ?_
 rintro r L' ⟨rfl,⟨F',g1,g2⟩,g3⟩
 have h2':Grown (fun t=>t=p) F L1 (L++[Blk.cells 1 (l.map fun s=>[IV.str s])]):=fun t ht=>by
  rcases h2 t ht with h | h
  ·exact .inl h
  ·right;simp only [lla,llc,lln];omega
 exact ⟨rfl,yg.step h2' (Keep.app h3) g1 g2 g3⟩
theorem z0O (hP:E.P=Tryz.prog) {L1:List Blk} {p n:Nat} {bs:List (List IV)} {least most:Int} (h:yg L1 L p bs) (h1:least<=(n:Int)) (h2:(n:Int)<=most) (hn:n<256^7) (hN:bs.length+100<=70368744177664) :
  XT E 102 [.ptr p 0 0,.int .i64 n,.int .i64 least,.int .i64 most] L fun r L'=>r=.tup []/\yg L1 L' p (bs++numR n):=by
 obtain ⟨F,e1,e2,e3⟩:=h
 refine (wQ hP e1 h1 h2 hn hN).mono ?_
 rintro r L' ⟨rfl,⟨F',g1,g2⟩,g3⟩
 exact ⟨rfl,yg.step e2 e3 g1 g2 g3⟩
theorem Jb (hP:E.P=Tryz.prog) {L1:List Blk} {p n:Nat} {bs:List (List IV)} (h:yg L1 L p bs) (hn:n<=4503599627370496) (hN:bs.length+100<=70368744177664) :
  XT E 107 [.ptr p 0 0,.int .i64 n] L fun r L'=>r=.tup []/\yg L1 L' p (bs++numR n):=by
 obtain ⟨F,e1,e2,e3⟩:=h
 refine (Yq hP e1 hn hN).mono ?_
 rintro r L' ⟨rfl,⟨F',g1,g2⟩,g3⟩
 exact ⟨rfl,yg.step e2 e3 g1 g2 g3⟩
theorem z9q (hP:E.P=Tryz.prog) {L1:List Blk} {p:Nat} {v:Int} {bs:List (List IV)} (h:yg L1 L p bs) (hv1 : -2251799813685248<=v) (hv2:v<=2251799813685248) (hN:bs.length+100<=70368744177664) :
  XT E 104 [.ptr p 0 0,.int .i64 v] L fun r L'=>r=.tup []/\yg L1 L' p (bs++numR (sgnN v)):=by
 obtain ⟨F,e1,e2,e3⟩:=h
 refine (z3g hP e1 hv1 hv2 hN).mono ?_
 rintro r L' ⟨rfl,⟨F',g1,g2⟩,g3⟩
 exact ⟨rfl,yg.step e2 e3 g1 g2 g3⟩
theorem yg.start {p:Nat} (h:yJ L p (fun t=>t=p) []):yg L L p []:=⟨_,h,Grown.refl,Keep.refl⟩
theorem zZ {n:Nat} (h:n<=4503599627370496):(numR n).length<=8:=by have:=zF n;have:=Za (n:=n) (k:=7) (by omega);omega
theorem z2Q (hP:E.P=Tryz.prog) {b:Nat} {e:EvV} (hb:L[b]?=some (.cells 4 [e.cells])) (he:e.ok):Writes E L 101 [.ptr b 0 0] e.bytes:=by
 intro L1 p hk hp hpen
 obtain ⟨o1,o2,o3,o4,o5,o6⟩:=he
 have hb1:=hk.get hb fun h=>h
 have lb1:=zg hb1
 have hbl:=zf hb
 have hbn:¬b=p:=by omega
 unfold EvV.cells at hb1
 have t1:=zW e.node (by omega)
 have t2:=zW e.txt (by omega)
 have n1:=zZ (n:=e.kind) (by omega)
 have s0:=yg.start hpen
 refine xt2 (fn:=Tryz.f101) (rs:=[]) (c:=q101) hP fun ρ h0 h1=>?_
 unfold q101
 simp (maxDischargeDepth:=12) only [h0,h1,hb1,go_sem,Nat.reduceEqDiff,reduceIte,Nat.reduceAdd]
 refine zh (z0O (E:=E.noPan) (n:=e.kind) hP s0 (by omega) (by omega) (by omega) (by simp)) ?_
 rintro r L2 ⟨rfl,s2⟩
 have hb2:=s2.get hb1 hbn
 have lb2:=zg hb2
 simp (maxDischargeDepth:=12) only [h0,h1,hb2,go_sem,Nat.reduceEqDiff,reduceIte,Nat.reduceAdd,Nat.reduceLT]
 refine zh (z3r (E:=E.noPan) (l:=[e.node,e.txt]) hP s2 (by simp) (by intro x hx;simp only [List.mem_cons,List.not_mem_nil,or_false] at hx;rcases hx with rfl | rfl<;>assumption) (by simp only [lla,lln];omega)) ?_
 rintro r L3 ⟨rfl,s3⟩
 have hb3:=s3.get hb1 hbn
 have lb3:=zg hb3
 simp (maxDischargeDepth:=12) only [h0,h1,hb3,go_sem,Nat.reduceEqDiff,reduceIte,Nat.reduceAdd,Nat.reduceLT]
 refine zh (z9q (E:=E.noPan) (v:=e.num) hP s3 o5 o6 (by simp only [lla,List.flatMap_cons,List.flatMap_nil,lln];omega)) ?_
 rintro r L4 ⟨rfl,s4⟩
 simp (maxDischargeDepth:=12) only [go_sem]
 obtain ⟨F,g1,g2,g3⟩:=s4
 exact ⟨⟨F,by simpa [EvV.bytes] using g1,g2⟩,g3⟩
theorem zb3 (hP:E.P=Tryz.prog) {e:EvV} (he:e.ok):XT E 39 [.agg e.cells] L fun r L'=>r=.tup [.isl e.bytes,.int .i64 0]/\L'=L:=by
 refine Z7 (R:=fun r L'=>∃v,r=.tup [v,.int .i64 0]/\NewB L L' v e.bytes/\Keep none' L L') ?_ ?_
 ·skip
  refine xt1 (fn:=Tryz.f39) (rs:=[.tmp 2,.tmp 3]) (c:=q39) hP fun ρ h0=>?_
  unfold q39
  have hce:cellsOf (.agg e.cells)=e.cells:=rfl
  have hcl:e.cells.length=4:=rfl
  simp only [h0,hce,hcl,go_sem,Nat.reduceEqDiff,reduceIte]
  refine zh (Y7 (E:=E.noPan) hP (z2Q hP (b:=L.length) (e:=e) (by simp) he) e.bytes_ne) ?_
  rintro r L' ⟨v,rfl,⟨g,rfl,hg,hb,hr⟩,hk⟩
  simp only [go_sem,Nat.reduceEqDiff,reduceIte,Nat.reduceAdd,Nat.reduceLT]
  exact ⟨_,rfl,⟨g,rfl,by simp at hg;omega,hb,hr⟩,Keep.trans (Keep.app Keep.refl) hk fun _ _ h=>h⟩
 ·rintro r L' ⟨v,rfl,hv,hk⟩
  exact ⟨hk,_,by simp only [fuel,conv,mapO,YB hv];rfl,rfl⟩
structure Zc where
 kind:Nat
 re:Nat
 im:Nat
 rb:Nat
 ib:Nat
 flow:List UInt8
 node:List UInt8
 try_:Nat
 at_:Nat
def Zc.cells (t:Zc):List IV:=[.int .i64 t.kind,.raw (.complex .f64 t.rb t.ib),.str t.flow,.str t.node,.int .i64 t.try_,.int .i64 t.at_,.int .i64 0,.str [],.str [],.str [],.str [],.str [],.int .i64 0]
def Zc.bytes (t:Zc):List (List IV):=numR t.kind++(numR t.re++numR t.im)++[t.flow,t.node].flatMap txtR++numR t.try_++numR t.at_++numR 0
def IdOk (re im rb ib:Nat):Prop:=re<=4503599627370496/\im<=4503599627370496/\∀E:Env,E.P=Tryz.prog->zI E 176 [.raw (.complex .f64 rb ib)] (.tup [.int .i64 re,.int .i64 im,.bool true])
def Zc.ok (t:Zc):Prop:=(1<=t.kind/\t.kind<=2)/\IdOk t.re t.im t.rb t.ib/\t.flow.length<=100000/\t.node.length<=100000/\t.try_<=4503599627370496/\t.at_<=4503599627370496
theorem Zc.bytes_ne (t:Zc):t.bytes≠[]:=by simp [Zc.bytes,numR]
theorem zhH (hP:E.P=Tryz.prog) {L1:List Blk} {p re im rb ib:Nat} {bs:List (List IV)} (h:yg L1 L p bs) (hi:IdOk re im rb ib) (hN:bs.length+1000<=70368744177664) :
  XT E 109 [.ptr p 0 0,.raw (.complex .f64 rb ib)] L fun r L'=>r=.tup []/\yg L1 L' p (bs++(numR re++numR im)):=by
 obtain ⟨i1,i2,i3⟩:=hi
 have n1:=zZ i1
 refine xt2 (fn:=Tryz.f109) (rs:=[]) (c:=q109) hP fun ρ h0 h1=>?_
 unfold q109
 simp only [h1,go_sem,reduceIte]
 refine zq (args':=[.raw (.complex .f64 rb ib)]) rfl (i3 E.noPan hP) rfl ?_
 simp only [h0,go_sem,Nat.reduceEqDiff,reduceIte,Nat.reduceAdd,Nat.reduceLT]
 refine zh (Jb (E:=E.noPan) (n:=re) hP h i1 (by omega)) ?_
 rintro r L2 ⟨rfl,s2⟩
 simp only [h0,go_sem,Nat.reduceEqDiff,reduceIte]
 refine zh (Jb (E:=E.noPan) (n:=im) hP s2 i2 (by simp only [lla];omega)) ?_
 rintro r L3 ⟨rfl,s3⟩
 simp only [go_sem]
 rw [List.append_assoc] at s3
 exact s3
theorem z7A (hP:E.P=Tryz.prog) {L1:List Blk} {p:Nat} {bs:List (List IV)} (h:yg L1 L p bs) (hN:bs.length+1000<=70368744177664) :
  XT E 110 [.ptr p 0 0,.agg [.int .i64 0,.str [],.str [],.str [],.str [],.str [],.int .i64 0]] L fun r L'=>r=.tup []/\yg L1 L' p (bs++numR 0):=by
 refine xt2 (fn:=Tryz.f110) (rs:=[]) (c:=q110) hP fun ρ h0 h1=>?_
 unfold q110
 have hce:cellsOf (.agg [.int .i64 0,.str [],.str [],.str [],.str [],.str [],.int .i64 0])=[.int .i64 0,.str [],.str [],.str [],.str [],.str [],.int .i64 0]:=rfl
 simp (maxDischargeDepth:=12) only [h0,h1,hce,go_sem,Nat.reduceEqDiff,reduceIte,Nat.reduceAdd]
 have sA:=h.app (k:=Blk.cells 7 [[.int .i64 0,.str [],.str [],.str [],.str [],.str [],.int .i64 0]])
 obtain ⟨b,hb⟩:∃b,L.length=b:=⟨_,rfl⟩
 have gb:(L++[Blk.cells 7 [[.int .i64 0,.str [],.str [],.str [],.str [],.str [],.int .i64 0]]])[b]?=some (Blk.cells 7 [[.int .i64 0,.str [],.str [],.str [],.str [],.str [],.int .i64 0]]):=by rw [<-hb];simp
 rw [hb]
 obtain ⟨F,f1,f2,f3⟩:=id h
 have hbF:¬F b:=fun hF=>by have:=f1.lt.2.2 _ hF;omega
 have kA:Keep none' L (L++[Blk.cells 7 [[.int .i64 0,.str [],.str [],.str [],.str [],.str [],.int .i64 0]]]):=Keep.app Keep.refl
 refine zh (wQ (E:=E.noPan) (n:=0) hP (f1.keep kA fun _ _ h=>h) (by omega) (by omega) (by omega) (by omega)) ?_
 rintro r L2 ⟨rfl,⟨F',g1,g2⟩,g3⟩
 have gb2:=g3.get gb hbF
 have lb2:=zg gb2
 have f2':Grown (fun t=>t=p) F L1 (L++[Blk.cells 7 [[.int .i64 0,.str [],.str [],.str [],.str [],.str [],.int .i64 0]]]):=fun t ht=>by
  rcases f2 t ht with h | h
  ·exact .inl h
  ·right;simp only [lla,llc,lln];omega
 have s2:=yg.step f2' (Keep.app f3) g1 g2 g3
 have he:ZW [0,1,1,1,1,1,0] [IV.int .i64 0,.str [],.str [],.str [],.str [],.str [],.int .i64 0] [IV.int .i64 0,.str [],.str [],.str [],.str [],.str [],.int .i64 0]=some true:=by simp [ZW]
 simp (maxDischargeDepth:=12) only [gb2,he,go_sem,Nat.reduceEqDiff,reduceIte,Nat.reduceAdd]
 exact s2
theorem z4H (hP:E.P=Tryz.prog) {b:Nat} {e:Zc} (hb:L[b]?=some (.cells 13 [e.cells])) (he:e.ok):Writes E L 108 [.ptr b 0 0] e.bytes:=by
 intro L1 p hk hp hpen
 obtain ⟨⟨o1,o2⟩,o3,o4,o5,o6,o7⟩:=he
 have hb1:=hk.get hb fun h=>h
 have lb1:=zg hb1
 have hbl:=zf hb
 have hbn:¬b=p:=by omega
 unfold Zc.cells at hb1
 have t1:=zW e.flow (by omega)
 have t2:=zW e.node (by omega)
 have n1:=zZ (n:=e.kind) (by omega)
 have n2:=zZ o6
 have n3:=zZ o7
 have n4:=zZ o3.1
 have n5:=zZ o3.2.1
 have s0:=yg.start hpen
 refine xt2 (fn:=Tryz.f108) (rs:=[]) (c:=q108) hP fun ρ h0 h1=>?_
 unfold q108
 simp (maxDischargeDepth:=12) only [h0,h1,hb1,go_sem,Nat.reduceEqDiff,reduceIte,Nat.reduceAdd]
 refine zh (z0O (E:=E.noPan) (n:=e.kind) hP s0 (by omega) (by omega) (by omega) (by simp)) ?_
 rintro r L2 ⟨rfl,s2⟩
 have hb2:=s2.get hb1 hbn
 have lb2:=zg hb2
 simp (maxDischargeDepth:=12) only [h0,h1,hb2,go_sem,Nat.reduceEqDiff,reduceIte,Nat.reduceAdd,Nat.reduceLT]
 refine zh (zhH (E:=E.noPan) hP s2 o3 (by simp only [lla,lln];omega)) ?_
 rintro r L3 ⟨rfl,s3⟩
 have hb3:=s3.get hb1 hbn
 have lb3:=zg hb3
 simp (maxDischargeDepth:=12) only [h0,h1,hb3,go_sem,Nat.reduceEqDiff,reduceIte,Nat.reduceAdd,Nat.reduceLT]
 refine zh (z3r (E:=E.noPan) (l:=[e.flow,e.node]) hP s3 (by simp) (by intro x hx;simp only [List.mem_cons,List.not_mem_nil,or_false] at hx;rcases hx with rfl | rfl<;>assumption) (by simp only [lla,lln];omega)) ?_
 rintro r L4 ⟨rfl,s4⟩
 have hb4:=s4.get hb1 hbn
 have lb4:=zg hb4
 simp (maxDischargeDepth:=12) only [h0,h1,hb4,go_sem,Nat.reduceEqDiff,reduceIte,Nat.reduceAdd,Nat.reduceLT]
 refine zh (Jb (E:=E.noPan) (n:=e.try_) hP s4 o6 (by simp only [lla,List.flatMap_cons,List.flatMap_nil,lln];omega)) ?_
 rintro r L5 ⟨rfl,s5⟩
 have hb5:=s5.get hb1 hbn
 have lb5:=zg hb5
 simp (maxDischargeDepth:=12) only [h0,h1,hb5,go_sem,Nat.reduceEqDiff,reduceIte,Nat.reduceAdd,Nat.reduceLT]
 refine zh (Jb (E:=E.noPan) (n:=e.at_) hP s5 o7 (by simp only [lla,List.flatMap_cons,List.flatMap_nil,lln];omega)) ?_
 rintro r L6 ⟨rfl,s6⟩
 have hb6:=s6.get hb1 hbn
 have lb6:=zg hb6
 simp (maxDischargeDepth:=12) only [h0,h1,hb6,go_sem,Nat.reduceEqDiff,reduceIte,Nat.reduceAdd]
 refine zh (z7A (E:=E.noPan) hP s6 (by simp only [lla,List.flatMap_cons,List.flatMap_nil,lln];omega)) ?_
 rintro r L7 ⟨rfl,s7⟩
 simp (maxDischargeDepth:=12) only [go_sem]
 obtain ⟨F,g1,g2,g3⟩:=s7
 exact ⟨⟨F,by simpa [Zc.bytes] using g1,g2⟩,g3⟩
theorem z7n (hP:E.P=Tryz.prog) {e:Zc} (he:e.ok):XT E 46 [.agg e.cells] L fun r L'=>r=.tup [.isl e.bytes,.int .i64 0]/\L'=L:=by
 refine Z7 (R:=fun r L'=>∃v,r=.tup [v,.int .i64 0]/\NewB L L' v e.bytes/\Keep none' L L') ?_ ?_
 ·skip
  refine xt1 (fn:=Tryz.f46) (rs:=[.tmp 2,.tmp 3]) (c:=q46) hP fun ρ h0=>?_
  unfold q46
  have hce:cellsOf (.agg e.cells)=e.cells:=rfl
  have hcl:e.cells.length=13:=rfl
  simp only [h0,hce,hcl,go_sem,Nat.reduceEqDiff,reduceIte]
  refine zh (Y7 (E:=E.noPan) hP (z4H hP (b:=L.length) (e:=e) (by simp) he) e.bytes_ne) ?_
  rintro r L' ⟨v,rfl,⟨g,rfl,hg,hb,hr⟩,hk⟩
  simp only [go_sem,Nat.reduceEqDiff,reduceIte,Nat.reduceAdd,Nat.reduceLT]
  exact ⟨_,rfl,⟨g,rfl,by simp at hg;omega,hb,hr⟩,Keep.trans (Keep.app Keep.refl) hk fun _ _ h=>h⟩
 ·rintro r L' ⟨v,rfl,hv,hk⟩
  exact ⟨hk,_,by simp only [fuel,conv,mapO,YB hv];rfl,rfl⟩
end
end Go.X.TryzW
end
section
open Go Go.X Go.Proofs
set_option maxRecDepth 100000
set_option maxHeartbeats 4000000
namespace Go.X.TryzW
def q182 : XC :=(sO [oO 2 (.alloc [(.int .i64 0),(.raw (.complex .f64 0 0)),(.str []),(.str []),(.int .i64 0),(.int .i64 0),(.int .i64 0),(.str []),(.str []),(.str []),(.str []),(.str []),(.int .i64 0)]),oI 3 0,oI 4 0] (sO [oM 5 0,oC 6 237 [.t 5,(.f 238)],oX 7 0 6,oX 8 1 6,oX 9 2 6,oU (.store 13 (.t 2) (.t 7)),oM 3 8,oM 4 9] .ret))
def q238 : XC :=(sO [oO 2 (.alloc [(.int .i64 0),(.raw (.complex .f64 0 0)),(.str []),(.str []),(.int .i64 0),(.int .i64 0),(.int .i64 0),(.str []),(.str []),(.str []),(.str []),(.str []),(.int .i64 0)])] (sO [oM 3 0,oC 4 95 [.t 3,(oi 1),(oi 3)],oF 5 0 2,oS 5 4] (sO [oM 6 0,oC 7 239 [.t 6],oF 8 1 2,oS 8 7] (sO [oM 9 0,oC 10 96 [.t 9],oF 11 2 2,oS 11 10] (sO [oM 12 0,oC 13 96 [.t 12],oF 14 3 2,oS 14 13] (sO [oM 15 0,oC 16 147 [.t 15],oF 17 4 2,oS 17 16] (sO [oM 18 0,oC 19 147 [.t 18],oF 20 5 2,oS 20 19] (sO [oM 21 0,oC 22 196 [.t 21],oF 23 6 2,oU (.store 7 (.t 23) (.t 22))] (sO [oO 24 (.loadN 13 (.t 2)),oU (.store 13 (.t 2) (.t 24))] .ret)))))))))
def q239 : XC :=(sO [oO 2 (.mov (.c (.raw (.complex .f64 0 0))))] (sO [oM 4 0,oC 5 147 [.t 4],oM 3 5] (sO [oM 6 3,oO 7 (.ex (.itof .f64) [.t 6]),oM 8 0,oC 9 147 [.t 8],oO 10 (.ex (.itof .f64) [.t 9]),oO 11 (.ex .cpx [.t 7,.t 10]),oM 2 11] .ret)))
def q196 : XC :=(sO [oO 2 (.alloc [(.int .i64 0),(.str []),(.str []),(.str []),(.str []),(.str []),(.int .i64 0)])] (sO [oM 5 0,oC 6 95 [.t 5,(oi 0),(oi 4)],oF 7 0 2,oS 7 6] (.seq (sO [oF 8 0 2,oL 9 8,oK 10 .eql 9 0] (cT 10 (sO [oO 11 (.loadN 7 (.t 2)),oU (.store 7 (.t 2) (.t 11))] .ret) .skip)) (.seq (sO [oF 12 1 2,oF 13 2 2,oF 14 3 2,oF 15 4 2,oF 16 5 2,oO 17 (.bslice 1 [(.raw (.pointer none))] 5 [(0,(.t 12)),(1,(.t 13)),(2,(.t 14)),(3,(.t 15)),(4,(.t 16))]),oY 18 17,oI 19 0] (.block 0 (.loop (sO [oB 20 .lss 19 18] (.seq (cT 20 .skip (.exit 0)) (.seq (.block 1 (sO [oO 21 (.idxS 1 (.t 17) (.t 19)),oL 22 21,oM 4 22] (.ops [oM 23 4,oM 24 0,oC 25 96 [.t 24],oN 26 23,oS 26 25]))) (.ops [oK 27 .add 19 1,oM 19 27]))))))) (sO [oM 28 0,oC 29 95 [.t 28,(oi 0),(oi 4)],oF 30 6 2,oS 30 29] (sO [oO 31 (.loadN 7 (.t 2)),oU (.store 7 (.t 2) (.t 31))] .ret))))))
section
variable {E:Env} {ρ:Rho} {L:List Blk} {K:IV->List Blk->Prop}
theorem zgk (hP:E.P=Tryz.prog) {p a re im:Nat} {bs rest:List (List IV)} (he:L[p]?=some (eyeB bs a)) (ha:bs.drop a=numR re++(numR im++rest)) (hr:zx bs) (hN:bs.length<=1099511627776) (h1:re<=4503599627370496) (h2:im<=4503599627370496) :
  XT E 239 [.ptr p 0 0] L fun r L'=>r=.raw (.complex .f64 (floatOfInt .f64 (re:Int)) (floatOfInt .f64 (im:Int)))/\L'=L.set p (eyeB bs (a+(zl re+1)+(zl im+1))):=by
 have hl:=zF re
 refine xt1 (fn:=Tryz.f239) (rs:=[.tmp 2]) (c:=q239) hP fun ρ h0=>?_
 unfold q239
 simp only [h0,go_sem,Nat.reduceEqDiff,reduceIte]
 refine zh (yK (E:=E.noPan) (n:=re) hP he ha hr hN h1) ?_
 rintro r L2 ⟨rfl,rfl⟩
 simp only [h0,go_sem,Nat.reduceEqDiff,reduceIte]
 have hd:=drop_at ha
 rw [hl] at hd
 refine zh (yK (E:=E.noPan) (p:=p) (bs:=bs) (a:=a+(zl re+1)) (n:=im) (rest:=rest) hP (by rw [List.getElem?_set_self (zf he)]) hd hr hN h2) ?_
 rintro r L3 ⟨rfl,rfl⟩
 simp only [go_sem,Nat.reduceEqDiff,reduceIte]
 rw [List.set_set]
theorem wP.keep {L1 L':List Blk} {p x a a' N:Nat} {bs:List (List IV)} {cs:List IV} (h:wP L1 L p x bs a N cs) (he:L'[p]?=some (eyeB bs a')) (hk:Keep (fun t=>t=p) L L'):wP L1 L' p x bs a' N cs:=by
 obtain ⟨h1,h2,h3,h4,h5⟩:=h
 exact ⟨he,hk.get h2 (by omega),h3.trans hk fun _ _ h=>h,h4,h5⟩
theorem zab (hP:E.P=Tryz.prog) {p a:Nat} {bs rest:List (List IV)} (he:L[p]?=some (eyeB bs a)) (ha:bs.drop a=numR 0++rest) (hr:zx bs) (hN:bs.length<=1099511627776) :
  XT E 196 [.ptr p 0 0] L fun r L'=>r=.agg [.int .i64 0,.str [],.str [],.str [],.str [],.str [],.int .i64 0]/\L'[p]?=some (eyeB bs (a+(zl 0+1)))/\Keep (fun t=>t=p) L L':=by
 have hpl:=zf he
 refine xt1 (fn:=Tryz.f196) (rs:=[.cellN 2 7]) (c:=q196) hP fun ρ h0=>?_
 unfold q196
 simp (maxDischargeDepth:=12) only [h0,go_sem,Nat.reduceEqDiff,reduceIte,Nat.reduceAdd]
 obtain ⟨x,hx⟩:∃x,L.length=x:=⟨_,rfl⟩
 have s0:wP L (L++[Blk.cells 7 [[.int .i64 0,.str [],.str [],.str [],.str [],.str [],.int .i64 0]]]) p x bs a 7 [.int .i64 0,.str [],.str [],.str [],.str [],.str [],.int .i64 0]:=⟨Zl he,by rw [<-hx];simp,Keep.app Keep.refl,by omega,hpl⟩
 rw [hx]
 generalize L++[Blk.cells 7 [[.int .i64 0,.str [],.str [],.str [],.str [],.str [],.int .i64 0]]]=L2 at *
 refine zh (wU (E:=E.noPan) (n:=0) hP s0.1 ha hr hN (by omega) (by omega) (by omega)) ?_
 rintro r L3 ⟨rfl,rfl⟩
 have gx:=s0.2.1
 have lx:=zg gx
 have lp:=zg s0.1
 have hpx:(p=x)=False:=eq_false (by omega)
 have hxp:(x=p)=False:=eq_false (by omega)
 have ez:((0:Nat):Int)=0:=rfl
 simp (maxDischargeDepth:=12) only [gx,lx,lp,hpx,hxp,ez,Y4,Zw,ZO,go_sem,Nat.reduceEqDiff,reduceIte,Nat.reduceAdd,Nat.reduceLeDiff]
 refine ⟨rfl,Keep.set (Keep.set (Keep.set s0.2.2.1 fun _=>rfl) fun h=>by omega) fun h=>by omega⟩
def Zc.rcells (t:Zc):List IV:=[.int .i64 t.kind,.raw (.complex .f64 (floatOfInt .f64 (t.re:Int)) (floatOfInt .f64 (t.im:Int))),.str t.flow,.str t.node,.int .i64 t.try_,.int .i64 t.at_,.int .i64 0,.str [],.str [],.str [],.str [],.str [],.int .i64 0]
theorem Zc.bytes_byte (t:Zc):zx t.bytes:=by
 have ht:∀x,zx (txtR x):=fun x=>(zH _).app (Zh _)
 unfold Zc.bytes
 refine (((((zH _).app ((zH _).app (zH _))).app ?_).app (zH _)).app (zH _)).app (zH _)
 intro r hr
 obtain ⟨x,_,hx⟩:=List.mem_flatMap.1 hr
 exact ht x r hx
theorem z6z (hP:E.P=Tryz.prog) {t:Zc} (he0:t.ok):Reads E L 238 [] t.bytes none' fun r M=>r=.agg t.rcells:=by
 intro L1 p hk hp hl he
 obtain ⟨⟨o1,o2⟩,o3,o4,o5,o6,o7⟩:=he0
 have t1:=zW t.flow (by omega)
 have t2:=zW t.node (by omega)
 have n1:=zZ (n:=t.kind) (by omega)
 have n2:=zZ o6
 have n3:=zZ o7
 have n4:=zZ o3.1
 have n5:=zZ o3.2.1
 have n6:=zZ (n:=0) (by omega)
 have m1:=zF t.kind
 have m2:=zF t.re
 have m3:=zF t.im
 have m4:=zF t.try_
 have m5:=zF t.at_
 have m6:=zF 0
 have hbl:t.bytes.length<=1099511627776:=by simp only [Zc.bytes,lla,List.flatMap_cons,List.flatMap_nil,lln];omega
 have hbb:=t.bytes_byte
 have e0:t.bytes=[]++(numR t.kind++(numR t.re++numR t.im++txtR t.flow++txtR t.node++numR t.try_++numR t.at_++numR 0)):=by simp [Zc.bytes]
 have e1:t.bytes=numR t.kind++(numR t.re++(numR t.im++(txtR t.flow++txtR t.node++numR t.try_++numR t.at_++numR 0))):=by simp [Zc.bytes]
 have e2:t.bytes=(numR t.kind++numR t.re++numR t.im)++(txtR t.flow++(txtR t.node++numR t.try_++numR t.at_++numR 0)):=by simp [Zc.bytes]
 have e3:t.bytes=(numR t.kind++numR t.re++numR t.im++txtR t.flow)++(txtR t.node++(numR t.try_++numR t.at_++numR 0)):=by simp [Zc.bytes]
 have e4:t.bytes=(numR t.kind++numR t.re++numR t.im++txtR t.flow++txtR t.node)++(numR t.try_++(numR t.at_++numR 0)):=by simp [Zc.bytes]
 have e5:t.bytes=(numR t.kind++numR t.re++numR t.im++txtR t.flow++txtR t.node++numR t.try_)++(numR t.at_++numR 0):=by simp [Zc.bytes]
 have e6:t.bytes=(numR t.kind++numR t.re++numR t.im++txtR t.flow++txtR t.node++numR t.try_++numR t.at_)++(numR 0++[]):=by simp [Zc.bytes]
 generalize hbs:t.bytes=bs at *
 refine xt1 (fn:=Tryz.f238) (rs:=[.cellN 2 13]) (c:=q238) hP fun ρ h0=>?_
 unfold q238
 simp only [h0,go_sem,Nat.reduceEqDiff,reduceIte,Nat.reduceAdd]
 obtain ⟨x,hx⟩:∃x,L1.length=x:=⟨_,rfl⟩
 have s0:wP L1 (L1++[Blk.cells 13 [[.int .i64 0,.raw (.complex .f64 0 0),.str [],.str [],.int .i64 0,.int .i64 0,.int .i64 0,.str [],.str [],.str [],.str [],.str [],.int .i64 0]]]) p x bs 0 13 [.int .i64 0,.raw (.complex .f64 0 0),.str [],.str [],.int .i64 0,.int .i64 0,.int .i64 0,.str [],.str [],.str [],.str [],.str [],.int .i64 0]:=⟨Zl he,by rw [<-hx];simp,Keep.app Keep.refl,by omega,by omega⟩
 rw [hx]
 generalize L1++[Blk.cells 13 [[.int .i64 0,.raw (.complex .f64 0 0),.str [],.str [],.int .i64 0,.int .i64 0,.int .i64 0,.str [],.str [],.str [],.str [],.str [],.int .i64 0]]]=M0 at *
 have hpx:(p=x)=False:=eq_false (by omega)
 have hxp:(x=p)=False:=eq_false (by omega)
 have hic:∀a b:Nat,zJ (.raw (.complex .f64 a b))=true:=fun _ _=>rfl
 refine zh (wU (E:=E.noPan) (n:=t.kind) hP s0.1 (Zj e0 rfl) hbb hbl (by omega) (by omega) (by omega)) ?_
 rintro r N0 ⟨rfl,rfl⟩
 have gx0:=s0.2.1
 have lx0:=zg gx0
 have lp0:=zg s0.1
 simp only [h0,gx0,hpx,go_sem,Nat.reduceEqDiff,reduceIte,Nat.reduceAdd,Nat.reduceLeDiff]
 have s1:=s0.next ((zl t.kind+1)) [.int .i64 t.kind,.raw (.complex .f64 0 0),.str [],.str [],.int .i64 0,.int .i64 0,.int .i64 0,.str [],.str [],.str [],.str [],.str [],.int .i64 0]
 obtain ⟨M1,hM1⟩:∃M,(M0.set p (eyeB bs ((zl t.kind+1)))).set x (.cells 13 [[.int .i64 t.kind,.raw (.complex .f64 0 0),.str [],.str [],.int .i64 0,.int .i64 0,.int .i64 0,.str [],.str [],.str [],.str [],.str [],.int .i64 0]])=M:=⟨_,rfl⟩
 rw [hM1] at s1 ⊢
 refine zh (zgk (E:=E.noPan) hP s1.1 (Zj e1 (by (try simp only [lla]);omega)) hbb hbl o3.1 o3.2.1) ?_
 rintro r N1 ⟨rfl,rfl⟩
 have gx1:=s1.2.1
 have lx1:=zg gx1
 have lp1:=zg s1.1
 simp only [h0,gx1,hpx,hic,go_sem,Nat.reduceEqDiff,reduceIte,Nat.reduceAdd,Nat.reduceLeDiff]
 have s2:=s1.next ((zl t.kind+1)+(zl t.re+1)+(zl t.im+1)) [.int .i64 t.kind,.raw (.complex .f64 (floatOfInt .f64 (t.re:Int)) (floatOfInt .f64 (t.im:Int))),.str [],.str [],.int .i64 0,.int .i64 0,.int .i64 0,.str [],.str [],.str [],.str [],.str [],.int .i64 0]
 obtain ⟨M2,hM2⟩:∃M,(M1.set p (eyeB bs ((zl t.kind+1)+(zl t.re+1)+(zl t.im+1)))).set x (.cells 13 [[.int .i64 t.kind,.raw (.complex .f64 (floatOfInt .f64 (t.re:Int)) (floatOfInt .f64 (t.im:Int))),.str [],.str [],.int .i64 0,.int .i64 0,.int .i64 0,.str [],.str [],.str [],.str [],.str [],.int .i64 0]])=M:=⟨_,rfl⟩
 rw [hM2] at s2 ⊢
 refine zh (YP (E:=E.noPan) (s:=t.flow) hP s2.1 (Zj e2 (by (try simp only [lla]);omega)) hbb hbl (by omega)) ?_
 rintro r N2 ⟨rfl,rfl⟩
 have gx2:=s2.2.1
 have lx2:=zg gx2
 have lp2:=zg s2.1
 simp only [h0,gx2,hpx,go_sem,Nat.reduceEqDiff,reduceIte,Nat.reduceAdd,Nat.reduceLeDiff]
 have s3:=s2.next ((zl t.kind+1)+(zl t.re+1)+(zl t.im+1)+(txtR t.flow).length) [.int .i64 t.kind,.raw (.complex .f64 (floatOfInt .f64 (t.re:Int)) (floatOfInt .f64 (t.im:Int))),.str t.flow,.str [],.int .i64 0,.int .i64 0,.int .i64 0,.str [],.str [],.str [],.str [],.str [],.int .i64 0]
 obtain ⟨M3,hM3⟩:∃M,(M2.set p (eyeB bs ((zl t.kind+1)+(zl t.re+1)+(zl t.im+1)+(txtR t.flow).length))).set x (.cells 13 [[.int .i64 t.kind,.raw (.complex .f64 (floatOfInt .f64 (t.re:Int)) (floatOfInt .f64 (t.im:Int))),.str t.flow,.str [],.int .i64 0,.int .i64 0,.int .i64 0,.str [],.str [],.str [],.str [],.str [],.int .i64 0]])=M:=⟨_,rfl⟩
 rw [hM3] at s3 ⊢
 refine zh (YP (E:=E.noPan) (s:=t.node) hP s3.1 (Zj e3 (by (try simp only [lla]);omega)) hbb hbl (by omega)) ?_
 rintro r N3 ⟨rfl,rfl⟩
 have gx3:=s3.2.1
 have lx3:=zg gx3
 have lp3:=zg s3.1
 simp only [h0,gx3,hpx,go_sem,Nat.reduceEqDiff,reduceIte,Nat.reduceAdd,Nat.reduceLeDiff]
 have s4:=s3.next ((zl t.kind+1)+(zl t.re+1)+(zl t.im+1)+(txtR t.flow).length+(txtR t.node).length) [.int .i64 t.kind,.raw (.complex .f64 (floatOfInt .f64 (t.re:Int)) (floatOfInt .f64 (t.im:Int))),.str t.flow,.str t.node,.int .i64 0,.int .i64 0,.int .i64 0,.str [],.str [],.str [],.str [],.str [],.int .i64 0]
 obtain ⟨M4,hM4⟩:∃M,(M3.set p (eyeB bs ((zl t.kind+1)+(zl t.re+1)+(zl t.im+1)+(txtR t.flow).length+(txtR t.node).length))).set x (.cells 13 [[.int .i64 t.kind,.raw (.complex .f64 (floatOfInt .f64 (t.re:Int)) (floatOfInt .f64 (t.im:Int))),.str t.flow,.str t.node,.int .i64 0,.int .i64 0,.int .i64 0,.str [],.str [],.str [],.str [],.str [],.int .i64 0]])=M:=⟨_,rfl⟩
 rw [hM4] at s4 ⊢
 refine zh (yK (E:=E.noPan) (n:=t.try_) hP s4.1 (Zj e4 (by (try simp only [lla]);omega)) hbb hbl o6) ?_
 rintro r N4 ⟨rfl,rfl⟩
 have gx4:=s4.2.1
 have lx4:=zg gx4
 have lp4:=zg s4.1
 simp only [h0,gx4,hpx,go_sem,Nat.reduceEqDiff,reduceIte,Nat.reduceAdd,Nat.reduceLeDiff]
 have s5:=s4.next ((zl t.kind+1)+(zl t.re+1)+(zl t.im+1)+(txtR t.flow).length+(txtR t.node).length+(zl t.try_+1)) [.int .i64 t.kind,.raw (.complex .f64 (floatOfInt .f64 (t.re:Int)) (floatOfInt .f64 (t.im:Int))),.str t.flow,.str t.node,.int .i64 t.try_,.int .i64 0,.int .i64 0,.str [],.str [],.str [],.str [],.str [],.int .i64 0]
 obtain ⟨M5,hM5⟩:∃M,(M4.set p (eyeB bs ((zl t.kind+1)+(zl t.re+1)+(zl t.im+1)+(txtR t.flow).length+(txtR t.node).length+(zl t.try_+1)))).set x (.cells 13 [[.int .i64 t.kind,.raw (.complex .f64 (floatOfInt .f64 (t.re:Int)) (floatOfInt .f64 (t.im:Int))),.str t.flow,.str t.node,.int .i64 t.try_,.int .i64 0,.int .i64 0,.str [],.str [],.str [],.str [],.str [],.int .i64 0]])=M:=⟨_,rfl⟩
 rw [hM5] at s5 ⊢
 refine zh (yK (E:=E.noPan) (n:=t.at_) hP s5.1 (Zj e5 (by (try simp only [lla]);omega)) hbb hbl o7) ?_
 rintro r N5 ⟨rfl,rfl⟩
 have gx5:=s5.2.1
 have lx5:=zg gx5
 have lp5:=zg s5.1
 simp only [h0,gx5,hpx,go_sem,Nat.reduceEqDiff,reduceIte,Nat.reduceAdd,Nat.reduceLeDiff]
 have s6:=s5.next ((zl t.kind+1)+(zl t.re+1)+(zl t.im+1)+(txtR t.flow).length+(txtR t.node).length+(zl t.try_+1)+(zl t.at_+1)) [.int .i64 t.kind,.raw (.complex .f64 (floatOfInt .f64 (t.re:Int)) (floatOfInt .f64 (t.im:Int))),.str t.flow,.str t.node,.int .i64 t.try_,.int .i64 t.at_,.int .i64 0,.str [],.str [],.str [],.str [],.str [],.int .i64 0]
 obtain ⟨M6,hM6⟩:∃M,(M5.set p (eyeB bs ((zl t.kind+1)+(zl t.re+1)+(zl t.im+1)+(txtR t.flow).length+(txtR t.node).length+(zl t.try_+1)+(zl t.at_+1)))).set x (.cells 13 [[.int .i64 t.kind,.raw (.complex .f64 (floatOfInt .f64 (t.re:Int)) (floatOfInt .f64 (t.im:Int))),.str t.flow,.str t.node,.int .i64 t.try_,.int .i64 t.at_,.int .i64 0,.str [],.str [],.str [],.str [],.str [],.int .i64 0]])=M:=⟨_,rfl⟩
 rw [hM6] at s6 ⊢
 refine zh (zab (E:=E.noPan) hP s6.1 (Zj e6 (by (try simp only [lla]);omega)) hbb hbl) ?_
 rintro r N6 ⟨rfl,k1,k2⟩
 have s7:=s6.keep k1 k2
 have gx7:=s7.2.1
 have lx7:=zg gx7
 simp only [gx7,lx7,hic,Y4,Zw,ZO,go_sem,Nat.reduceEqDiff,reduceIte,Nat.reduceAdd]
 have hlb:bs.length=(zl t.kind+1)+(zl t.re+1)+(zl t.im+1)+(txtR t.flow).length+(txtR t.node).length+(zl t.try_+1)+(zl t.at_+1)+(zl 0+1):=by rw [e6];simp only [lla,lln];omega
 have hxn:¬x=p:=by omega
 refine ⟨rfl,?_,Keep.set (Keep.set (s7.2.2.1.mono fun t _ h=>.inl h) fun h=>by omega) fun h=>by omega⟩
 rw [List.getElem?_set_ne hxn,List.getElem?_set_ne hxn,s7.1,hlb]
theorem z2h (hP:E.P=Tryz.prog) {t:Zc} (ht:t.ok):zI E 182 [.isl t.bytes] (.tup [.agg t.rcells,.int .i64 0,.int .i64 0]):=by
 refine Z7 (R:=fun r L'=>r=.tup [.agg t.rcells,.int .i64 0,.int .i64 0]/\Keep none' [] L') ?_ ?_
 ·skip
  refine xt1 (fn:=Tryz.f182) (rs:=[.cellN 2 13,.tmp 3,.tmp 4]) (c:=q182) hP fun ρ h0=>?_
  unfold q182
  simp only [h0,go_sem,Nat.reduceEqDiff,reduceIte,Nat.reduceAdd]
  refine zh (z8L (E:=E.noPan) hP (z6z hP ht) (fun r M M' _ h=>h) (fun _ h=>h.elim) (fun r M h=>⟨_,h,rfl,rfl⟩)) ?_
  rintro r L2 ⟨v,rfl,rfl,hk⟩
  have hb:=hk.get (t:=0) (k:=Blk.cells 13 [[.int .i64 0,.raw (.complex .f64 0 0),.str [],.str [],.int .i64 0,.int .i64 0,.int .i64 0,.str [],.str [],.str [],.str [],.str [],.int .i64 0]]) rfl (fun h=>h)
  have lb:=zg hb
  have hce:cellsOf (.agg t.rcells)=t.rcells:=rfl
  have hcl:t.rcells.length=13:=rfl
  have hca:t.rcells.all zJ=true:=rfl
  have htk:t.rcells.take 13=t.rcells:=rfl
  have hzd:List.drop 13 ([.int .i64 0,.raw (.complex .f64 0 0),.str [],.str [],.int .i64 0,.int .i64 0,.int .i64 0,.str [],.str [],.str [],.str [],.str [],.int .i64 0]:List IV)=[]:=rfl
  have hzl:List.length ([.int .i64 0,.raw (.complex .f64 0 0),.str [],.str [],.int .i64 0,.int .i64 0,.int .i64 0,.str [],.str [],.str [],.str [],.str [],.int .i64 0]:List IV)=13:=rfl
  simp only [hb,lb,hce,hcl,hca,htk,hzd,hzl,List.append_nil,Y4,Zw,ZO,jE,go_sem,Nat.reduceEqDiff,reduceIte,Nat.reduceAdd,Nat.reduceLT]
  exact ⟨rfl,⟨Nat.zero_le _,fun t ht=>nomatch ht⟩⟩
 ·rintro r L' ⟨rfl,hk⟩
  exact ⟨hk,_,rfl,rfl⟩
end
end Go.X.TryzW
end
section
open Go Go.X Go.Proofs
set_option maxRecDepth 100000
set_option maxHeartbeats 4000000
namespace Go.X.TryzW
def q76 : XC :=(sO [oV 2 .nsl,oI 3 0,oI 4 0] (sO [oM 5 0,oC 6 145 [.t 5,(.f 146)],oX 7 0 6,oX 8 1 6,oX 9 2 6,oM 2 7,oM 3 8,oM 4 9] .ret))
def q146 : XC :=(sO [oV 2 .nsl] (.seq (sO [oM 4 0,oC 5 147 [.t 4],oI 6 0] (.block 0 (.loop (sO [oB 7 .lss 6 5] (.seq (cT 7 .skip (.exit 0)) (.seq (.block 1 (sO [oM 8 0,oC 9 96 [.t 8],oO 10 (.build [(.str []),(.str []),(.bool false)] [(0,(1,(.t 9)))]),oO 3 (.alloc [(.str []),(.str []),(.bool false)]),oU (.store 3 (.t 3) (.t 10))] (.seq (sO [oM 11 0,oC 12 148 [.t 11],oF 13 2 3,oS 13 12] (sO [oF 14 2 3,oL 15 14,oO 16 (.un .not (.t 15))] (cT 16 (.ops [oM 17 0,oC 18 96 [.t 17],oF 19 1 3,oS 19 18]) .skip))) (.ops [oM 20 2,oO 21 (.loadN 3 (.t 3)),oO 22 (.bslice 3 [(.str []),(.str []),(.bool false)] 1 [(0,(.t 21))]),oO 23 (.append 3 40 (.t 20) (.t 22)),oM 2 23])))) (.ops [oK 24 .add 6 1,oM 6 24]))))))) (sO [oM 25 2,oM 2 25] .ret)))
section
variable {E:Env} {ρ:Rho} {L:List Blk} {K:IV->List Blk->Prop}
theorem z3G (x:List UInt8):zx (txtR x):=(zH _).app (Zh _)
theorem z3Q (o:OpV) (h:o.gone=false):opsR [o]=numR 1++(txtR o.key++([[.int .u8 0]]++txtR o.val)):=by simp [opsR,OpV.bytes,h]
theorem z7D (hP:E.P=Tryz.prog) {o:OpV} (hg:o.gone=false) (hk1:o.key.length<=100000) (hv1:o.val.length<=100000):Reads E L 146 [] (opsR [o]) none' fun r M=>∃g,r=.sl g 0 1 1/\L.length+4<=g/\M[g]?=some (.cells 3 [[.str o.key,.str o.val,.bool false]]):=by
 intro L1 p hk hp hl he
 have t1:=zW o.key (by omega)
 have t2:=zW o.val (by omega)
 have n1:=zZ (n:=1) (by omega)
 have m1:=zF 1
 have e0:opsR [o]=[]++(numR 1++(txtR o.key++([[.int .u8 0]]++txtR o.val))):=by rw [z3Q o hg];simp
 have e1:opsR [o]=numR 1++(txtR o.key++([[.int .u8 0]]++txtR o.val)):=z3Q o hg
 have e2:opsR [o]=(numR 1++txtR o.key)++([IV.int .u8 (if false then 1 else 0)]::txtR o.val):=by rw [z3Q o hg];simp
 have e3:opsR [o]=(numR 1++txtR o.key++[[.int .u8 0]])++(txtR o.val++[]):=by rw [z3Q o hg];simp
 have hbb:zx (opsR [o]):=by
  rw [z3Q o hg]
  refine (zH _).app ((z3G _).app (zx.app ?_ (z3G _)))
  intro r hr
  simp only [List.mem_singleton] at hr
  subst hr
  exact ⟨0,rfl⟩
 have hbl:(opsR [o]).length<=1099511627776:=by rw [e1];simp only [lla,llc,lln];omega
 generalize hbs:opsR [o]=bs at *
 refine xt1 (fn:=Tryz.f146) (rs:=[.tmp 2]) (c:=q146) hP fun ρ h0=>?_
 unfold q146
 simp only [h0,go_sem,Nat.reduceEqDiff,reduceIte]
 refine zh (yK (E:=E.noPan) (n:=1) hP he (Zj e0 rfl) hbb hbl (by omega)) ?_
 rintro r L2 ⟨rfl,rfl⟩
 have ez:((1:Nat):Int)=1:=rfl
 simp only [ez,go_sem]
 obtain ⟨L2,hL2⟩:∃M,L1.set p (eyeB bs (0+(zl 1+1)))=M:=⟨_,rfl⟩
 have k2:Keep (fun t=>t=p) L1 L2:=by rw [<-hL2];exact Keep.set Keep.refl fun _=>rfl
 have g2:L2[p]?=some (eyeB bs (zl 1+1)):=by rw [<-hL2,List.getElem?_set_self (zf he),Nat.zero_add]
 rw [Nat.zero_add] at hL2
 rw [hL2]
 refine zT (fun n ρ M=>(n=1/\M=L2/\ρ 0=.ptr p 0 0/\ρ 2=.nsl/\ρ 5=.int .i64 1/\ρ 6=.int .i64 0)\/(n=0/\ρ 5=.int .i64 1/\ρ 6=.int .i64 1/\∃g,ρ 2=.sl g 0 1 1/\L.length+4<=g/\M[g]?=some (.cells 3 [[.str o.key,.str o.val,.bool false]])/\M[p]?=some (eyeB bs bs.length)/\Keep (fun t=>t=p) L1 M))
  (.inl ⟨rfl,rfl,by simp only [h0,go_sem,Nat.reduceEqDiff,reduceIte],by simp only [go_sem,Nat.reduceEqDiff,reduceIte],by simp only [go_sem,Nat.reduceEqDiff,reduceIte],by simp only [go_sem,Nat.reduceEqDiff,reduceIte]⟩) ?_
 clear h0 ρ
 rintro n ρ M (⟨rfl,rfl,h0,h2,h5,h6⟩ | ⟨rfl,h5,h6,g,h2,g1,g3,g4,g5⟩)
 rotate_left
 ·simp only [h2,h5,h6,go_sem,Nat.reduceEqDiff,reduceIte,Int.reduceLT]
  exact ⟨⟨g,rfl,g1,g3⟩,g4,g5.mono fun t _ h=>.inl h⟩
 simp only [h0,h5,h6,go_sem,Nat.reduceEqDiff,reduceIte,Int.reduceLT]
 refine zh (YP (E:=E.noPan) (s:=o.key) hP g2 (Zj e1 (by omega)) hbb hbl (by omega)) ?_
 rintro r L3 ⟨rfl,rfl⟩
 obtain ⟨L3,hL3⟩:∃N,M.set p (eyeB bs (zl 1+1+(txtR o.key).length))=N:=⟨_,rfl⟩
 have k3:Keep (fun t=>t=p) L1 L3:=by rw [<-hL3];exact Keep.set k2 fun _=>rfl
 have g3:L3[p]?=some (eyeB bs (zl 1+1+(txtR o.key).length)):=by rw [<-hL3,List.getElem?_set_self (zf g2)]
 have l3:L3.length=L1.length:=by rw [<-hL3,lls,<-hL2,lls]
 rw [hL3]
 have hpl:(p<L3.length)=True:=eq_true (zf g3)
 simp only [h0,go_sem,Nat.reduceEqDiff,reduceIte,Int.reduceLT,Nat.reduceAdd,Nat.reduceLeDiff]
 obtain ⟨x,hx⟩:∃x,L3.length=x:=⟨_,rfl⟩
 have s4:wP L1 (L3++[Blk.cells 3 [[.str o.key,.str [],.bool false]]]) p x bs (zl 1+1+(txtR o.key).length) 3 [.str o.key,.str [],.bool false]:=⟨Zl g3,by rw [<-hx];simp,Keep.app k3,by omega,by have:=zf g3;omega⟩
 rw [hx]
 generalize L3++[Blk.cells 3 [[IV.str o.key,.str [],.bool false]]]=L4 at *
 have hpx:(p=x)=False:=eq_false (by omega)
 have hxp:(x=p)=False:=eq_false (by omega)
 have gx4:=s4.2.1
 have lx4:=zg gx4
 have lp4:=zg s4.1
 refine zh (zbT (E:=E.noPan) (b:=false) hP s4.1 (Zj e2 (by simp only [lla];omega)) hbb hbl) ?_
 rintro r L5 ⟨rfl,rfl⟩
 simp only [h0,gx4,lx4,hpx,go_sem,Nat.reduceEqDiff,reduceIte,Int.reduceLT,Nat.reduceAdd,Nat.reduceLT]
 have s5:=s4.next (zl 1+1+(txtR o.key).length+1) [.str o.key,.str [],.bool false]
 obtain ⟨L5,hL5⟩:∃M,(L4.set p (eyeB bs (zl 1+1+(txtR o.key).length+1))).set x (.cells 3 [[.str o.key,.str [],.bool false]])=M:=⟨_,rfl⟩
 rw [hL5] at s5 ⊢
 have gx5:=s5.2.1
 have lx5:=zg gx5
 have lp5:=zg s5.1
 refine zh (YP (E:=E.noPan) (s:=o.val) hP s5.1 (Zj e3 (by simp only [lla,llc,lln];omega)) hbb hbl (by omega)) ?_
 rintro r L6 ⟨rfl,rfl⟩
 simp only [h2,gx5,lx5,hpx,go_sem,Nat.reduceEqDiff,reduceIte,Int.reduceLT,Nat.reduceAdd,Nat.reduceLeDiff]
 have s6:=s5.next (zl 1+1+(txtR o.key).length+1+(txtR o.val).length) [.str o.key,.str o.val,.bool false]
 obtain ⟨L6,hL6⟩:∃M,(L5.set p (eyeB bs (zl 1+1+(txtR o.key).length+1+(txtR o.val).length))).set x (.cells 3 [[.str o.key,.str o.val,.bool false]])=M:=⟨_,rfl⟩
 rw [hL6] at s6 ⊢
 have gx6:=s6.2.1
 have lx6:=zg gx6
 have hl56:L5.length=L6.length:=by rw [<-hL6,lls,lls]
 simp only [go_sem]
 rw [hl56]
 have hrc:yj 3 [[IV.str o.key,IV.str o.val,IV.bool false]]:=fun r hr=>by simp at hr;subst hr;exact ⟨rfl,rfl⟩
 have hx1:rowsOf (L6++[Blk.cells 3 [[IV.str o.key,IV.str o.val,IV.bool false]]]) (.sl L6.length 0 1 1)=some [[IV.str o.key,IV.str o.val,IV.bool false]]:=Zz (sz:=3) (by simp) rfl
 refine YM hx1 hrc (by simp) (by simp) ?_
 simp only [wi64,h0,h2,h5,h6,go_sem,Nat.reduceEqDiff,reduceIte,Int.reduceLT,Int.reduceLE,Int.reduceAdd,Int.reduceNeg]
 have hlb:bs.length=zl 1+1+(txtR o.key).length+1+(txtR o.val).length:=by rw [e3];simp only [lla,llc,lln];omega
 have hl6:=s6.2.2.1.1
 refine ⟨0,by omega,.inr ⟨rfl,_,rfl,?_,?_,?_,Keep.app (Keep.app s6.2.2.1)⟩⟩
 ·simp only [lla,llc,lln];omega
 ·simp
 ·rw [hlb];exact Zl (Zl s6.1)
theorem z6r (hP:E.P=Tryz.prog) {o:OpV} (hg:o.gone=false) (hk1:o.key.length<=100000) (hv1:o.val.length<=100000):XT E 76 [.isl (opsR [o])] L fun r L'=>r=.tup [.isl [[.str o.key,.str o.val,.bool false]],.int .i64 0,.int .i64 0]/\L'=L:=by
 refine Z7 (R:=fun r L'=>∃g,r=.tup [.sl g 0 1 1,.int .i64 0,.int .i64 0]/\L.length<=g/\L'[g]?=some (.cells 3 [[.str o.key,.str o.val,.bool false]])/\Keep none' L L') ?_ ?_
 ·skip
  refine xt1 (fn:=Tryz.f76) (rs:=[.tmp 2,.tmp 3,.tmp 4]) (c:=q76) hP fun ρ h0=>?_
  unfold q76
  simp only [h0,go_sem,Nat.reduceEqDiff,reduceIte]
  refine zh (z8X (E:=E.noPan) hP (z7D hP hg hk1 hv1) ?_ (fun _ h=>h.elim) (fun r M h=>?_)) ?_
  ·rintro r M M' hk ⟨g,rfl,g1,g2⟩
   exact ⟨g,rfl,g1,hk.get g2 (by omega)⟩
  ·obtain ⟨g,rfl,_⟩:=h
   exact ⟨_,rfl,rfl,rfl⟩
  rintro r L2 ⟨v,rfl,⟨g,rfl,g1,g2⟩,hk⟩
  simp only [go_sem,Nat.reduceEqDiff,reduceIte,Nat.reduceAdd,Nat.reduceLT]
  exact ⟨g,rfl,by omega,g2,hk⟩
 ·rintro r L' ⟨g,rfl,hgl,hg,hk⟩
  have h1:y7 L.length g=some none:=by simp [y7];omega
  exact ⟨hk,_,by simp [fuel,conv,mapO,h1,hg],rfl⟩
end
end Go.X.TryzW
end
section
open Go Go.X Go.Proofs
set_option maxRecDepth 100000
set_option maxHeartbeats 4000000
namespace Go.X.TryzW
section
variable {E:Env} {ρ:Rho} {L:List Blk} {K:IV->List Blk->Prop}
theorem z6q (gl:Nat->Option (List IV)):Yp (tabE Tryz.prog) gl 600 40 176 [.raw (.complex .f64 0 0)]=some (.tup [.int .i64 0,.int .i64 0,.bool true]):=by kernel_rfl
theorem z2p (hP:E.P=Tryz.prog):zI E 176 [.raw (.complex .f64 0 0)] (.tup [.int .i64 0,.int .i64 0,.bool true]):=zL (y5 hP) (z6q E.gl)
theorem z6e (gl:Nat->Option (List IV)):Yp (tabE Tryz.prog) gl 600 40 176 [.raw (.complex .f64 4607182418800017408 4607182418800017408)]=some (.tup [.int .i64 1,.int .i64 1,.bool true]):=by kernel_rfl
theorem z3z (hP:E.P=Tryz.prog):zI E 176 [.raw (.complex .f64 4607182418800017408 4607182418800017408)] (.tup [.int .i64 1,.int .i64 1,.bool true]):=zL (y5 hP) (z6e E.gl)
end
end Go.X.TryzW
end
section
open Go Go.X Go.Proofs
set_option maxRecDepth 100000
set_option maxHeartbeats 4000000
namespace Go.X.TryzW
def q85 : XC :=(sO [oV 6 (.str [])] (sO [oM 8 0,oM 9 1,oC 10 158 [.t 8,.t 9],oM 7 10] (sO [oM 11 2,oM 12 7,oO 13 (.lenS (.t 12)),oB 14 .sub 11 13,oO 15 (.max2 (oi 0) (.t 14)),oO 16 (.call (.f 159) [(.c (.str [48])),.t 15]),oM 17 7,oB 18 .add 16 17,oM 6 18] .ret)))
def q231 : XC :=(sO [oV 2 (.str [])] (sO [oM 4 0,oC 5 158 [.t 4,(oi 16)],oM 3 5] (sO [oM 6 3,oO 7 (.lenS (.t 6)),oO 8 (.bin .sub (oi 14) (.t 7)),oO 9 (.max2 (oi 0) (.t 8)),oO 10 (.call (.f 159) [(.c (.str [48])),.t 9]),oM 11 3,oB 12 .add 10 11,oM 2 12] .ret)))
def q42 : XC :=(sO [oV 4 (.str [])] (sO [oM 5 0,oC 6 34 [.t 5],oM 7 1,oC 8 85 [.t 7,(oi 16),(oi 14)],oB 9 .add 6 8,oM 4 9] .ret))
def q121 : XC :=(sO [oV 4 (.str [])] (sO [oM 5 0,oC 6 116 [.t 5],oM 7 1,oC 8 85 [.t 7,(oi 16),(oi 14)],oB 9 .add 6 8,oM 4 9] .ret))
def q177 : XC :=(sO [oV 2 (.str [])] (sO [oM 7 0,oC 8 176 [.t 7],oM 6 8,oX 9 0 6,oX 10 1 6,oX 11 2 6,oM 3 9,oM 4 10,oM 5 11] (.seq (sO [oM 12 5,oO 13 (.un .not (.t 12))] (cT 13 (sO [oV 2 (.str [])] .ret) .skip)) (sO [oM 14 3,oC 15 231 [.t 14],oM 16 4,oC 17 231 [.t 16],oB 18 .add 15 17,oM 2 18] .ret))))
def q113 : XC :=(sO [oV 2 (.str [])] (sO [oM 3 0,oC 4 177 [.t 3],oO 5 (.bin .add (.c (.str [100,47])) (.t 4)),oM 2 5] .ret))
section
variable {E:Env} {ρ:Rho} {L:List Blk} {K:IV->List Blk->Prop}
def z0w (n:Nat):List UInt8:=Lib.repeatL [48] (14 - (hexT n).length)++hexT n
theorem z2a:∀k,(Lib.repeatL [48] k).length=k
 | 0=>rfl
 | k+1=>by
  have:=z2a k
  simp [Lib.repeatL,this]<;>omega
theorem z5f:∀f n,(hexF f n).length<=f+1
 | 0,n=>by simp [hexF]
 | f+1,n=>by
  unfold hexF
  split
  ·simp
  ·have:=z5f f (n / 16)
   simp only [lla,llc,lln]
   omega
theorem z1U (n:Nat):(hexT n).length<=21:=z5f 20 n
theorem yt (n:Nat):(z0w n).length<=35:=by
 have:=z1U n
 unfold z0w
 rw [lla,z2a]
 omega
theorem zey {k:Nat}:(if (14:Int) - (k:Int)>0 then (14:Int) - (k:Int) else 0)=((14 - k:Nat):Int):=by split<;>omega
theorem z02 (hP:E.P=Tryz.prog) {n:Nat} (hg:E.gl 6=some dbT) (hn:n<9223372036854775808):zI E 85 [.int .i64 n,.int .i64 16,.int .i64 14] (.str (z0w n)):=by
 have hl:=z1U n
 refine yu (n:=Tryz.f85.ntmps) (c:=q85) (t:=6) (by rw [hP];rfl) (by rw [hP];kernel_rfl) (by decide) (Nat.le_of_ble_eq_true rfl) ?_
 generalize hρ:entry _=ρ
 have h0:ρ 0=.int .i64 n:=by rw [<-hρ];rfl
 have h1:ρ 1=.int .i64 16:=by rw [<-hρ];rfl
 have h2:ρ 2=.int .i64 14:=by rw [<-hρ];rfl
 clear hρ
 unfold q85
 simp only [h0,h1,go_sem,Nat.reduceEqDiff,reduceIte]
 refine zq (args':=[.int .i64 n,.int .i64 16]) rfl (z0Y (E:=E.noPan) hP hg hn) rfl ?_
 have w1:IntKind.i64.wrap ((14:Int) - ((hexT n).length:Int))=14 - ((hexT n).length:Int):=wrap64 (by omega) (by omega)
 simp only [h2,w1,go_sem,Nat.reduceEqDiff,reduceIte]
 rw [zey]
 refine zq (args':=[.str [48],.int .i64 ((14 - (hexT n).length:Nat):Int)]) rfl (WZ (E:=E.noPan) hP [48] (14 - (hexT n).length) (by omega) (by decide)) rfl ?_
 simp only [go_sem,Nat.reduceEqDiff,reduceIte]
 exact ⟨by rw [z2a];omega,rfl⟩
theorem z0R (hP:E.P=Tryz.prog) {n:Nat} (hg:E.gl 6=some dbT) (hn:n<9223372036854775808):zI E 231 [.int .i64 n] (.str (z0w n)):=by
 have hl:=z1U n
 refine yu (n:=Tryz.f231.ntmps) (c:=q231) (t:=2) (by rw [hP];rfl) (by rw [hP];kernel_rfl) (by decide) (Nat.le_of_ble_eq_true rfl) ?_
 generalize hρ:entry _=ρ
 have h0:ρ 0=.int .i64 n:=by rw [<-hρ];rfl
 clear hρ
 unfold q231
 simp only [h0,go_sem,Nat.reduceEqDiff,reduceIte]
 refine zq (args':=[.int .i64 n,.int .i64 16]) rfl (z0Y (E:=E.noPan) hP hg hn) rfl ?_
 have w1:IntKind.i64.wrap ((14:Int) - ((hexT n).length:Int))=14 - ((hexT n).length:Int):=wrap64 (by omega) (by omega)
 simp only [w1,go_sem,Nat.reduceEqDiff,reduceIte]
 rw [zey]
 refine zq (args':=[.str [48],.int .i64 ((14 - (hexT n).length:Nat):Int)]) rfl (WZ (E:=E.noPan) hP [48] (14 - (hexT n).length) (by omega) (by decide)) rfl ?_
 simp only [go_sem,Nat.reduceEqDiff,reduceIte]
 exact ⟨by rw [z2a];omega,rfl⟩
def evK (i:Nat):List UInt8:=[101,47,48,48,48,47]++z0w i
def rqK (i:Nat):List UInt8:=[114,47,48,48,48,47]++z0w i
def dpK (re im:Nat):List UInt8:=[100,47]++(z0w re++z0w im)
theorem z2g (hP:E.P=Tryz.prog) {i:Nat} (hg:E.gl 6=some dbT) (hn:i<9223372036854775808):zI E 42 [.int .i64 0,.int .i64 i] (.str (evK i)):=by
 refine yu (n:=Tryz.f42.ntmps) (c:=q42) (t:=4) (by rw [hP];rfl) (by rw [hP];kernel_rfl) (by decide) (Nat.le_of_ble_eq_true rfl) ?_
 generalize hρ:entry _=ρ
 have h0:ρ 0=.int .i64 0:=by rw [<-hρ];rfl
 have h1:ρ 1=.int .i64 i:=by rw [<-hρ];rfl
 clear hρ
 unfold q42
 simp only [h0,go_sem,Nat.reduceEqDiff,reduceIte]
 refine zq (args':=[.int .i64 0]) rfl (Wp (E:=E.noPan) hP) rfl ?_
 simp only [h1,go_sem,Nat.reduceEqDiff,reduceIte]
 refine zq (args':=[.int .i64 i,.int .i64 16,.int .i64 14]) rfl (z02 (E:=E.noPan) hP hg hn) rfl ?_
 have hw:=yt i
 simp only [go_sem,Nat.reduceEqDiff,reduceIte,Nat.reduceAdd]
 exact ⟨by omega,rfl⟩
theorem z06 (hP:E.P=Tryz.prog) {i:Nat} (hg:E.gl 6=some dbT) (hn:i<9223372036854775808):zI E 121 [.int .i64 0,.int .i64 i] (.str (rqK i)):=by
 refine yu (n:=Tryz.f121.ntmps) (c:=q121) (t:=4) (by rw [hP];rfl) (by rw [hP];kernel_rfl) (by decide) (Nat.le_of_ble_eq_true rfl) ?_
 generalize hρ:entry _=ρ
 have h0:ρ 0=.int .i64 0:=by rw [<-hρ];rfl
 have h1:ρ 1=.int .i64 i:=by rw [<-hρ];rfl
 clear hρ
 unfold q121
 simp only [h0,go_sem,Nat.reduceEqDiff,reduceIte]
 refine zq (args':=[.int .i64 0]) rfl (YC (E:=E.noPan) hP) rfl ?_
 simp only [h1,go_sem,Nat.reduceEqDiff,reduceIte]
 refine zq (args':=[.int .i64 i,.int .i64 16,.int .i64 14]) rfl (z02 (E:=E.noPan) hP hg hn) rfl ?_
 have hw:=yt i
 simp only [go_sem,Nat.reduceEqDiff,reduceIte,Nat.reduceAdd]
 exact ⟨by omega,rfl⟩
theorem z6j (hP:E.P=Tryz.prog) {re im rb ib:Nat} (hg:E.gl 6=some dbT) (h1:re<=4503599627370496) (h2:im<=4503599627370496) (hp:∀E:Env,E.P=Tryz.prog->zI E 176 [.raw (.complex .f64 rb ib)] (.tup [.int .i64 re,.int .i64 im,.bool true])):zI E 177 [.raw (.complex .f64 rb ib)] (.str (z0w re++z0w im)):=by
 have l1:=yt re
 have l2:=yt im
 refine yu (n:=Tryz.f177.ntmps) (c:=q177) (t:=2) (by rw [hP];rfl) (by rw [hP];kernel_rfl) (by decide) (Nat.le_of_ble_eq_true rfl) ?_
 generalize hρ:entry _=ρ
 have h0:ρ 0=.raw (.complex .f64 rb ib):=by rw [<-hρ];rfl
 clear hρ
 unfold q177
 simp only [h0,go_sem,Nat.reduceEqDiff,reduceIte]
 refine zq (args':=[.raw (.complex .f64 rb ib)]) rfl (hp E.noPan hP) rfl ?_
 simp only [go_sem,Nat.reduceEqDiff,reduceIte,Nat.reduceAdd,Nat.reduceLT]
 refine zq (args':=[.int .i64 re]) rfl (z0R (E:=E.noPan) hP hg (by omega)) rfl ?_
 simp only [go_sem,Nat.reduceEqDiff,reduceIte]
 refine zq (args':=[.int .i64 im]) rfl (z0R (E:=E.noPan) hP hg (by omega)) rfl ?_
 simp only [go_sem,Nat.reduceEqDiff,reduceIte]
 exact ⟨by omega,rfl⟩
theorem jY (hP:E.P=Tryz.prog) {re im rb ib:Nat} (hg:E.gl 6=some dbT) (h1:re<=4503599627370496) (h2:im<=4503599627370496) (hp:∀E:Env,E.P=Tryz.prog->zI E 176 [.raw (.complex .f64 rb ib)] (.tup [.int .i64 re,.int .i64 im,.bool true])):zI E 113 [.raw (.complex .f64 rb ib)] (.str (dpK re im)):=by
 have l1:=yt re
 have l2:=yt im
 refine yu (n:=Tryz.f113.ntmps) (c:=q113) (t:=2) (by rw [hP];rfl) (by rw [hP];kernel_rfl) (by decide) (Nat.le_of_ble_eq_true rfl) ?_
 generalize hρ:entry _=ρ
 have h0:ρ 0=.raw (.complex .f64 rb ib):=by rw [<-hρ];rfl
 clear hρ
 unfold q113
 simp only [h0,go_sem,Nat.reduceEqDiff,reduceIte]
 refine zq (args':=[.raw (.complex .f64 rb ib)]) rfl (z6j (E:=E.noPan) hP hg (by omega) (by omega) hp) rfl ?_
 simp only [go_sem,Nat.reduceEqDiff,reduceIte,Nat.reduceAdd]
 exact ⟨by simp only [lla];omega,rfl⟩
end
end Go.X.TryzW
end
section
open Go Go.X Go.Proofs
set_option maxRecDepth 100000
set_option maxHeartbeats 4000000
namespace Go.X.TryzW
def q58 : XC :=(sO [oV 4 .nsl] (sO [oV 5 .nsl] (.seq (.seq (.drawE [oM 11 0,oN 12 11,oF 13 0 12,oL 14 13,oM 15 1,oQ 16 116 [.t 15],oC 17 33 [.t 14,.t 16,(oi 2147483648)],oY 18 17,oI 19 0]) (.block 0 (.loop (sO [oB 20 .lss 19 18] (.seq (cT 20 .skip (.exit 0)) (.seq (.block 1 (sO [oO 21 (.idxS 2 (.t 17) (.t 19)),oO 22 (.loadN 2 (.t 21)),oO 7 (.alloc [(.str []),(.str [])]),oU (.store 2 (.t 7) (.t 22))] (sO [oF 24 1 7,oL 25 24,oO 26 (.ex (.strB 5) [.t 25]),oC 27 76 [.t 26],oM 23 27,oX 28 0 23,oX 29 1 23,oX 30 2 23,oM 8 28,oM 9 29,oM 10 30] (sO [oM 31 8,oY 32 31,oK 33 .eql 32 1] (cT 33 (.drawR [(oM 34 5,([],false)),(oF 35 0 7,([],false)),(oL 36 35,([],false)),(oM 37 8,([],false)),(oO 38 (.idxS 3 (.t 37) (oi 0)),([],false)),(oF 39 0 38,([],false)),(oL 40 39,([],false)),(oM 41 8,([],false)),(oO 42 (.idxS 3 (.t 41) (oi 0)),([],false)),(oF 43 1 42,([],false)),(oL 44 43,([],false)),(oO 45 (.build [(.str []),(.str []),(.str [])] [(0,(1,(.t 36))),(1,(1,(.t 40))),(2,(1,(.t 44)))]),([],false)),(oO 46 (.bslice 3 [(.str []),(.str []),(.str [])] 1 [(0,(.t 45))]),([],false)),(oO 47 (.append 3 48 (.t 34) (.t 46)),([],false)),(oM 5 47,([],false))]) .skip))))) (.ops [oK 48 .add 19 1,oM 19 48]))))))) (sO [oM 49 5,oM 4 49] .ret))))
def q15 : XC :=(sO [oV 6 (.str []),oV 7 (.bool false)] (sO [oM 13 0,oM 14 1,oC 15 32 [.t 13,.t 14],oM 12 15,oX 16 0 12,oX 17 1 12,oM 8 16,oM 9 17] (.seq (sO [oM 18 9,oO 19 (.un .not (.t 18))] (cT 19 (sO [oV 6 (.str []),oV 7 (.bool false)] .ret) .skip)) (.seq (sO [oM 20 0,oM 21 8,oC 22 58 [.t 20,.t 21],oY 23 22,oI 24 0] (.block 0 (.loop (sO [oB 25 .lss 24 23] (.seq (cT 25 .skip (.exit 0)) (.seq (.block 1 (sO [oO 26 (.idxS 3 (.t 22) (.t 24)),oO 27 (.loadN 3 (.t 26)),oO 11 (.alloc [(.str []),(.str []),(.str [])]),oU (.store 3 (.t 11) (.t 27))] (sO [oF 28 1 11,oL 29 28,oM 30 2,oB 31 .eql 29 30] (cT 31 (sO [oF 32 2 11,oL 33 32,oM 6 33,oV 7 (.bool true)] .ret) .skip)))) (.ops [oK 34 .add 24 1,oM 24 34]))))))) (sO [oV 6 (.str []),oV 7 (.bool false)] .ret)))))
section
variable {E:Env} {ρ:Rho} {L:List Blk} {K:IV->List Blk->Prop}
def ji (sz:Nat) (L0 L:List Blk) (v:IV) (rows:List (List IV)):Prop:=(v=.nsl/\rows=[])\/∃g,v=.sl g 0 rows.length rows.length/\L[g]?=some (.cells sz rows)/\L0.length<=g/\rows≠[]
structure RqV where
 key:List UInt8
 req:List UInt8
 ans:List UInt8
def RqV.row (q:RqV):List IV:=[.str q.key,.str q.req,.str q.ans]
def RqV.val (q:RqV):List UInt8:=strOf (opsR [⟨q.req,q.ans,false⟩])
def RqV.ok (q:RqV):Prop:=q.req.length<=5000/\q.ans.length<=5000
def rqKV (l:List RqV):KV:=l.map fun q=>(q.key,q.val)
theorem RqV.ok.plain {q:RqV} (h:q.ok):Plain (opsR [⟨q.req,q.ans,false⟩]):=by
 rw [z3Q _ rfl]
 exact (Zp (by omega)).app ((yR (by have:=h.1;show q.req.length<=_;omega)).app (Plain.app ⟨[0],rfl⟩ (yR (by have:=h.2;show q.ans.length<=_;omega))))
theorem RqV.ok.len {q:RqV} (h:q.ok):(opsR [⟨q.req,q.ans,false⟩]).length<=11000:=by
 rw [z3Q _ rfl]
 have h1:=zW q.req (by have:=h.1;omega)
 have h2:=zW q.ans (by have:=h.2;omega)
 have h3:=zZ (n:=1) (by omega)
 have:=h.1
 have:=h.2
 simp only [lla,llc,lln]
 omega
theorem z5i {sz by_:Nat} {L1:List Blk} {v:IV} {rows:List (List IV)} {p:List IV} {KV':IV->List Blk->Prop} (h:ji sz L L1 v rows) (hk:Keep none' L L1) (hN:rows.length<=1000000) (hby:by_<=1000) (hrc:yj sz [p]) (hK:∀(w:IV) (M:List Blk),Keep none' L M->ji sz L M w (rows++[p])->KV' w M) :
  xop E (.append sz by_ (.c v) (.c (.sl L1.length 0 1 1))) cev (L1++[.cells sz [p]]) KV':=by
 have hx:rowsOf (L1++[Blk.cells sz [p]]) (.sl L1.length 0 1 1)=some [p]:=Zz (sz:=sz) (by simp) rfl
 have k2:Keep none' L (L1++[Blk.cells sz [p]]):=Keep.app hk
 have hb1:(rows.length+1)*by_<=70368744177664:=Nat.le_trans (Nat.mul_le_mul (show rows.length+1<=1000001 by omega) hby) (by decide)
 rcases h with ⟨rfl,rfl⟩ | ⟨rb,rfl,hrb,hge,hne⟩
 ·refine YM hx hrc (by simp) (by simp;omega) (hK _ _ (Keep.app k2) (.inr ⟨_,rfl,?_,k2.1,by simp⟩))
  simp
 ·refine Yg (yM hrb) rfl hx hrc (by simp) hb1 (hK _ _ (Keep.app (Keep.set k2 fun h=>by omega)) (.inr ⟨(L1++[Blk.cells sz [p]]).length,by simp,?_,k2.1,by simp⟩))
  have e1:((L1++[Blk.cells sz [p]]).set rb .dead).length=(L1++[Blk.cells sz [p]]).length:=lls
  rw [<-e1,List.getElem?_append_right (Nat.le_refl _),Nat.sub_self]
  simp
theorem ji.keep {sz:Nat} {L0 L1 L2:List Blk} {v:IV} {rows:List (List IV)} (h:ji sz L0 L1 v rows) (hk:Keep none' L1 L2):ji sz L0 L2 v rows:=by
 rcases h with h | ⟨g,h1,h2,h3,h4⟩
 ·exact .inl h
 ·exact .inr ⟨g,h1,hk.get h2 fun h=>h,h3,h4⟩
theorem z8l {M:List Blk} {s:List UInt8} {t:Nat} {rs:List (List IV)} (h:M[t]?=some (.tcells 5 1 (zi s))) (hr:zi s=rs):mapO (conv M fuel (yZ t)) [IV.sl t 0 s.length s.length]=some [.isl rs]:=by
 subst hr
 have e2:conv M fuel (yZ t) (IV.sl t 0 s.length s.length)=some (.isl (zi s)):=by
  have ht:(zi s).take s.length=zi s:=List.take_of_length_le (by rw [Zf];exact Nat.le_refl _)
  simp [fuel,conv,yZ,h,ht,Y8 (Zh s),Zf]
 simp only [mapO,e2]
theorem JJ (hP:E.P=Tryz.prog) {x s N:Nat} {F:Nat->Prop} {fence:Int} {d:KV} {l:List RqV} (hx:L[x]?=some (exB s)) (h:zt L s F N fence d) (hN:d.length<=900000) (hkl:∀p∈d,p.1.length<=1000) (hl:d.list [114,47,48,48,48,47]=rqKV l) (ho:∀q∈l,q.ok) (hll:l.length<=100000) :
  XT E 58 [.ptr x 0 0,.int .i64 0] L fun r L'=>r=.isl (l.map RqV.row)/\L'=L:=by
 refine Z7 (R:=fun r L'=>ji 3 L L' r (l.map RqV.row)/\Keep none' L L') ?_ ?_
 rotate_left
 ·rintro r L' ⟨hr,hk⟩
  refine ⟨hk,_,?_,rfl⟩
  rcases hr with ⟨rfl,e⟩ | ⟨g,rfl,j2,j3,j4⟩
  ·rw [e];rfl
  ·have h1:y7 L.length g=some none:=by simp [y7];omega
   have h2:(l.map RqV.row).take l.length=l.map RqV.row:=List.take_of_length_le (by simp)
   have h3:∀(n:Nat) (m:Ren) (L:List Blk) (q:List RqV),mapO (mapO (conv L (n+1) m)) (q.map RqV.row)=some (q.map RqV.row):=fun n m L q=>by
    induction q with
    | nil=>rfl
    | cons a q ih=>simp only [List.map_cons,mapO,ih,RqV.row,conv]
   simp [fuel,conv,h1,j2,h2,h3]
 have lx:=zg hx
 have hx1:=hx
 unfold exB at hx1
 refine xt2 (fn:=Tryz.f58) (rs:=[.tmp 4]) (c:=q58) hP fun ρ h0 h1=>?_
 unfold q58
 simp only [h0,h1,hx1,go_sem,Nat.reduceEqDiff,reduceIte,Nat.reduceAdd]
 refine Zt (args':=[.int .i64 0]) rfl (YC (E:=E.noPan) hP) (fun _=>rfl) ?_
 simp only [go_sem,Nat.reduceEqDiff,reduceIte]
 refine zh (z4c (E:=E.noPan) hP h hN (by decide) hkl) ?_
 rintro r L1 ⟨rfl,rfl⟩
 rw [hl]
 have hpl:(ZZ (rqKV l)).length=l.length:=by simp [ZZ,rqKV]
 have ln:lenOf (.isl (ZZ (rqKV l)))=some l.length:=by rw [<-hpl];rfl
 simp only [zC ln,go_sem,Nat.reduceEqDiff,reduceIte]
 refine zT (fun n ρ M=>∃i:Nat,i<=l.length/\n=l.length - i/\ρ 17=.isl (ZZ (rqKV l))/\ρ 18=.int .i64 l.length/\ρ 19=.int .i64 i/\Keep none' L1 M/\ji 3 L1 M (ρ 5) ((l.take i).map RqV.row))
  ⟨0,by omega,rfl,by simp only [go_sem,Nat.reduceEqDiff,reduceIte],by simp only [go_sem,Nat.reduceEqDiff,reduceIte],by simp only [go_sem,Nat.reduceEqDiff,reduceIte]<;>rfl,Keep.refl,.inl ⟨by simp only [go_sem,Nat.reduceEqDiff,reduceIte],rfl⟩⟩ ?_
 clear h0 h1 ρ
 rintro n ρ M ⟨i,hi,rfl,h17,h18,h19,kM,hR⟩
 obtain ⟨v5,h5⟩:∃v,ρ 5=v:=⟨_,rfl⟩
 rw [h5] at hR
 by_cases hc:i<l.length
 ·have f1:((i:Int)<(l.length:Int))=True:=eq_true (by omega)
  have e0:((0:Int)<=(i:Int))=True:=eq_true (by omega)
  obtain ⟨q,hq⟩:∃q,l[i]?=some q:=⟨l[i],List.getElem?_eq_getElem hc⟩
  have hqm:q∈l:=List.mem_of_getElem? hq
  have hqo:=ho q hqm
  have hqp:=hqo.plain
  have hql:=hqo.len
  have n1:(i<(ZZ (rqKV l)).length)=True:=eq_true (by omega)
  have gd:(ZZ (rqKV l)).getD i []=[.str q.key,.str q.val]:=by rw [List.getD_eq_getElem?_getD];simp [ZZ,rqKV,hq]
  have hR2:Rows 2 (ZZ (rqKV l))=True:=eq_true (fun r hr=>by obtain ⟨p,_,rfl⟩:=List.mem_map.1 hr;rfl)
  have hfv:(q.val.length<=9223372036854775807)=True:=eq_true (by unfold RqV.val;rw [hqp.len];omega)
  have w1:IntKind.i64.wrap ((i:Int)+1)=((i+1:Nat):Int):=by rw [wrap64 (by omega) (by omega)];rfl
  simp only [h17,h18,h19,f1,e0,gd,hR2,hpl,hfv,Int.toNat_natCast,go_sem,Nat.reduceEqDiff,reduceIte,Nat.reduceAdd,Nat.reduceLT]
  refine ⟨hc,?_⟩
  obtain ⟨x7,h7⟩:∃x7,M.length=x7:=⟨_,rfl⟩
  have g7:(M++[Blk.cells 2 [[IV.str q.key,IV.str q.val]]]++[Blk.tcells 5 1 (zi q.val)])[x7]?=some (.cells 2 [[IV.str q.key,IV.str q.val]]):=by rw [<-h7];simp []
  have k2:Keep none' M (M++[Blk.cells 2 [[IV.str q.key,IV.str q.val]]]++[Blk.tcells 5 1 (zi q.val)]):=Keep.app (Keep.app Keep.refl)
  rw [h7]
  obtain ⟨tb,htb⟩:∃tb,(M++[Blk.cells 2 [[IV.str q.key,IV.str q.val]]]).length=tb:=⟨_,rfl⟩
  have gt:(M++[Blk.cells 2 [[IV.str q.key,IV.str q.val]]]++[Blk.tcells 5 1 (zi q.val)])[tb]?=some (.tcells 5 1 (zi q.val)):=by rw [<-htb];simp
  have n7:tb=x7+1:=by rw [<-htb,<-h7];simp
  rw [htb]
  generalize M++[Blk.cells 2 [[IV.str q.key,IV.str q.val]]]++[Blk.tcells 5 1 (zi q.val)]=M1 at *
  refine zh (z8k (args':=[.isl (opsR [⟨q.req,q.ans,false⟩])]) gt rfl (z8l gt (by unfold RqV.val;rw [hqp.rows])) (z6r (E:=E.noPan) (o:=⟨q.req,q.ans,false⟩) hP rfl (by have:=hqo.1;show q.req.length<=_;omega) (by have:=hqo.2;show q.ans.length<=_;omega))) ?_
  rintro r M2' ⟨rfl,rfl⟩
  have k3:Keep none' M (M1.set tb .dead):=Keep.set k2 fun h=>by omega
  have g7:(M1.set tb .dead)[x7]?=some (.cells 2 [[IV.str q.key,IV.str q.val]]):=by rw [List.getElem?_set_ne (by omega)];exact g7
  generalize M1.set tb .dead=M2 at *
  have lo1:lenOf (.isl [[IV.str q.req,IV.str q.ans,IV.bool false]])=some 1:=rfl
  have hR3:Rows 3 [[IV.str q.req,IV.str q.ans,IV.bool false]]=True:=eq_true (fun r hr=>by simp only [List.mem_singleton] at hr;subst hr;rfl)
  have l7:=zg g7
  simp only [h5,zC lo1,hR3,g7,go_sem,Nat.reduceEqDiff,reduceIte,Int.reduceLT,Int.reduceLE,Nat.reduceAdd,Nat.reduceLT,Nat.reduceLeDiff,Int.reduceToNat]
  refine z5i (hR.keep k3) (kM.trans k3 fun _ _ h=>h) (by simp;omega) (by decide) (fun r hr=>by simp only [List.mem_singleton] at hr;subst hr;exact ⟨rfl,rfl⟩) (fun w M3 kM3 hR3'=>?_)
  simp only [h17,h18,h19,w1,go_sem,Nat.reduceEqDiff,reduceIte,Int.reduceToNat]
  have ht:l.take (i+1)=l.take i++[q]:=by rw [List.take_add_one,hq];rfl
  exact ⟨l.length - (i+1),by omega,i+1,by omega,rfl,rfl,kM3,by rw [ht,List.map_append];exact hR3'⟩
 ·have f1:((i:Int)<(l.length:Int))=False:=eq_false (by omega)
  simp only [h18,h19,h5,f1,go_sem,Nat.reduceEqDiff,reduceIte]
  have hil:i=l.length:=by omega
  subst hil
  rw [List.take_length] at hR
  exact ⟨hR,kM⟩
def z1s (l:List RqV) (r:List UInt8):List UInt8 × Bool:=match l.find? fun q=>decide (q.req=r) with
 | some q=>(q.ans,true)
 | none=>([],false)
theorem z7u (hP:E.P=Tryz.prog) {x s N:Nat} {F:Nat->Prop} {fence:Int} {d:KV} {l:List RqV} {kn:Option StV} {rq:List UInt8} (hx:L[x]?=some (exB s)) (h:zt L s F N fence d) (hN:d.length<=900000) (hkl:∀p∈d,p.1.length<=1000) (hf:Y2 d kn) (hkn:kn.isSome=true) (hl:d.list [114,47,48,48,48,47]=rqKV l) (ho:∀q∈l,q.ok) (hll:l.length<=100000) :
  XT E 15 [.ptr x 0 0,.str faa,.str rq] L fun r L'=>r=.tup [.str (z1s l rq).1,.bool (z1s l rq).2]/\L'=L:=by
 refine Z7 (R:=fun r L'=>r=.tup [.str (z1s l rq).1,.bool (z1s l rq).2]/\Keep none' L L') ?_ ?_
 rotate_left
 ·rintro r L' ⟨rfl,hk⟩
  exact ⟨hk,_,rfl,rfl⟩
 refine xt3 (fn:=Tryz.f15) (rs:=[.tmp 6,.tmp 7]) (c:=q15) hP fun ρ h0 h1 h2=>?_
 unfold q15
 simp only [h0,h1,go_sem,Nat.reduceEqDiff,reduceIte]
 refine zh (YL (E:=E.noPan) hP hx h hN hf) ?_
 rintro r L' ⟨rfl,rfl⟩
 rw [hkn]
 simp only [h0,go_sem,Nat.reduceEqDiff,reduceIte,Nat.reduceAdd,Nat.reduceLT]
 refine zh (JJ (E:=E.noPan) hP hx h hN hkl hl ho hll) ?_
 rintro r L1 ⟨rfl,rfl⟩
 have hpl:(l.map RqV.row).length=l.length:=by simp
 have ln:lenOf (.isl (l.map RqV.row))=some l.length:=by rw [<-hpl];rfl
 simp only [zC ln,go_sem,Nat.reduceEqDiff,reduceIte]
 refine zT (fun n ρ M=>∃i:Nat,i<=l.length/\n=l.length - i/\ρ 2=.str rq/\ρ 22=.isl (l.map RqV.row)/\ρ 23=.int .i64 l.length/\ρ 24=.int .i64 i/\Keep none' L1 M/\(l.take i).find? (fun q=>decide (q.req=rq))=none)
  ⟨0,by omega,rfl,by simp only [h2,go_sem,Nat.reduceEqDiff,reduceIte],by simp only [go_sem,Nat.reduceEqDiff,reduceIte],by simp only [go_sem,Nat.reduceEqDiff,reduceIte],by simp only [go_sem,Nat.reduceEqDiff,reduceIte]<;>rfl,Keep.refl,rfl⟩ ?_
 clear h0 h1 h2 ρ
 rintro n ρ M ⟨i,hi,rfl,h2,h22,h23,h24,kM,hno⟩
 by_cases hc:i<l.length
 ·have f1:((i:Int)<(l.length:Int))=True:=eq_true (by omega)
  have e0:((0:Int)<=(i:Int))=True:=eq_true (by omega)
  obtain ⟨q,hq⟩:∃q,l[i]?=some q:=⟨l[i],List.getElem?_eq_getElem hc⟩
  have n1:(i<(l.map RqV.row).length)=True:=eq_true (by omega)
  have gd:(l.map RqV.row).getD i []=[.str q.key,.str q.req,.str q.ans]:=by rw [List.getD_eq_getElem?_getD];simp [hq,RqV.row]
  have hR2:Rows 3 (l.map RqV.row)=True:=eq_true (fun r hr=>by obtain ⟨p,_,rfl⟩:=List.mem_map.1 hr;rfl)
  have w1:IntKind.i64.wrap ((i:Int)+1)=((i+1:Nat):Int):=by rw [wrap64 (by omega) (by omega)];rfl
  by_cases hqr:q.req=rq
  ·have f2:(q.req=rq)=True:=eq_true hqr
   simp only [h2,h22,h23,h24,f1,f2,e0,gd,hR2,hpl,Int.toNat_natCast,go_sem,Nat.reduceEqDiff,reduceIte,Nat.reduceAdd,Nat.reduceLT]
   have hqi:l[i]=q:=by rw [List.getElem?_eq_getElem hc] at hq;exact Option.some.inj hq
   have ed:l.drop i=q::l.drop (i+1):=by rw [List.drop_eq_getElem_cons hc,hqi]
   have hfd:l.find? (fun q=>decide (q.req=rq))=some q:=by
    rw [<-List.take_append_drop i l,List.find?_append,hno,ed]
    simp [hqr]
   have ha:z1s l rq=(q.ans,true):=by unfold z1s;rw [hfd]
   rw [ha]
   exact ⟨hc,rfl,Keep.app kM⟩
  ·have f2:(q.req=rq)=False:=eq_false hqr
   simp only [h2,h22,h23,h24,f1,f2,e0,gd,hR2,hpl,w1,Int.toNat_natCast,go_sem,Nat.reduceEqDiff,reduceIte,Nat.reduceAdd,Nat.reduceLT]
   have ht:l.take (i+1)=l.take i++[q]:=by rw [List.take_add_one,hq];rfl
   refine ⟨hc,l.length - (i+1),by omega,i+1,by omega,rfl,rfl,Keep.app kM,?_⟩
   rw [ht,List.find?_append,hno]
   simp [hqr]
 ·have f1:((i:Int)<(l.length:Int))=False:=eq_false (by omega)
  simp only [h23,h24,f1,go_sem,Nat.reduceEqDiff,reduceIte]
  have hil:i=l.length:=by omega
  subst hil
  rw [List.take_length] at hno
  have ha:z1s l rq=([],false):=by unfold z1s;rw [hno]
  rw [ha]
  exact ⟨rfl,kM⟩
end
end Go.X.TryzW
end
section
open Go Go.X Go.Proofs
set_option maxRecDepth 100000
set_option maxHeartbeats 4000000
namespace Go.X.TryzW
def q123 : XC :=(sO [oV 4 .nsl] (sO [oV 5 .nsl] (.seq (sO [oM 11 0,oN 12 11,oF 13 0 12,oL 14 13,oM 15 1,oC 16 33 [.t 14,.t 15,(oi 2147483648)],oY 17 16,oI 18 0] (.block 0 (.loop (sO [oB 19 .lss 18 17] (.seq (cT 19 .skip (.exit 0)) (.seq (.block 1 (sO [oO 20 (.idxS 2 (.t 16) (.t 18)),oO 21 (.loadN 2 (.t 20)),oO 7 (.alloc [(.str []),(.str [])]),oU (.store 2 (.t 7) (.t 21))] (sO [oF 23 1 7,oL 24 23,oO 25 (.ex (.strB 5) [.t 24]),oC 26 182 [.t 25],oM 22 26,oX 27 0 22,oX 28 1 22,oX 29 2 22,oO 8 (.alloc [(.int .i64 0),(.raw (.complex .f64 0 0)),(.str []),(.str []),(.int .i64 0),(.int .i64 0),(.int .i64 0),(.str []),(.str []),(.str []),(.str []),(.str []),(.int .i64 0)]),oU (.store 13 (.t 8) (.t 27)),oM 9 28,oM 10 29] (.ops [oM 30 5,oO 31 (.loadN 13 (.t 8)),oO 32 (.bslice 13 [(.int .i64 0),(.raw (.complex .f64 0 0)),(.str []),(.str []),(.int .i64 0),(.int .i64 0),(.int .i64 0),(.str []),(.str []),(.str []),(.str []),(.str []),(.int .i64 0)] 1 [(0,(.t 31))]),oO 33 (.append 13 168 (.t 30) (.t 32)),oM 5 33])))) (.ops [oK 34 .add 18 1,oM 18 34]))))))) (sO [oM 35 5,oM 4 35] .ret))))
def q50 : XC :=(sO [oV 2 .nsl] (sO [oM 3 0,oO 4 (.call (.f 123) [.t 3,(.c (.str [100,47]))]),oM 2 4] .ret))
section
variable {E:Env} {ρ:Rho} {L:List Blk} {K:IV->List Blk->Prop}
theorem Zc.ok.plain {t:Zc} (h:t.ok):Plain t.bytes:=by
 obtain ⟨⟨o1,o2⟩,o3,o4,o5,o6,o7⟩:=h
 have np:=fun (x:Nat) (hx:x<=4503599627370496)=>Zp (n:=x) (by omega)
 unfold Zc.bytes
 refine (((((np _ (by omega)).app ((np _ o3.1).app (np _ o3.2.1))).app ?_).app (np _ o6)).app (np _ o7)).app (np _ (by omega))
 simp only [List.flatMap_cons,List.flatMap_nil,List.append_nil]
 exact (yR (by omega)).app (yR (by omega))
theorem Zc.ok.len {t:Zc} (h:t.ok):t.bytes.length<=t.flow.length+t.node.length+64:=by
 obtain ⟨⟨o1,o2⟩,o3,o4,o5,o6,o7⟩:=h
 have t1:=zW t.flow (by omega)
 have t2:=zW t.node (by omega)
 have n1:=zZ (n:=t.kind) (by omega)
 have n2:=zZ o6
 have n3:=zZ o7
 have n4:=zZ o3.1
 have n5:=zZ o3.2.1
 have n6:=zZ (n:=0) (by omega)
 simp only [Zc.bytes,lla,List.flatMap_cons,List.flatMap_nil,lln]
 omega
def tkKV (l:List (List UInt8 × Zc)):KV:=l.map fun q=>(q.1,strOf q.2.bytes)
def Yn (l:List (List UInt8 × Zc)):List (List IV):=l.map fun q=>q.2.rcells
theorem zaQ (hP:E.P=Tryz.prog) {x s N:Nat} {F:Nat->Prop} {fence:Int} {d:KV} {l:List (List UInt8 × Zc)} {pre:List UInt8} (hx:L[x]?=some (exB s)) (h:zt L s F N fence d) (hN:d.length<=900000) (hpre:pre.length<=1000) (hkl:∀p∈d,p.1.length<=1000) (hl:d.list pre=tkKV l) (ho:∀q∈l,q.2.ok) (hll:l.length<=100000) :
  XT E 123 [.ptr x 0 0,.str pre] L fun r L'=>r=.isl (Yn l)/\L'=L:=by
 refine Z7 (R:=fun r L'=>ji 13 L L' r (Yn l)/\Keep none' L L') ?_ ?_
 rotate_left
 ·rintro r L' ⟨hr,hk⟩
  refine ⟨hk,_,?_,rfl⟩
  rcases hr with ⟨rfl,e⟩ | ⟨g,rfl,j2,j3,j4⟩
  ·rw [e];rfl
  ·have h1:y7 L.length g=some none:=by simp [y7];omega
   have hln:(Yn l).length=l.length:=by simp [Yn]
   have h2:(Yn l).take (Yn l).length=Yn l:=List.take_length
   have h3:∀(n:Nat) (m:Ren) (L:List Blk) (q:List (List UInt8 × Zc)),mapO (mapO (conv L (n+1) m)) (Yn q)=some (Yn q):=fun n m L q=>by
    unfold Yn
    induction q with
    | nil=>rfl
    | cons a q ih=>
     have e1:mapO (conv L (n+1) m) a.2.rcells=some a.2.rcells:=rfl
     simp only [List.map_cons,mapO,ih,e1]
   simp [fuel,conv,h1,j2,h2,h3]
 have lx:=zg hx
 have hx1:=hx
 unfold exB at hx1
 refine xt2 (fn:=Tryz.f123) (rs:=[.tmp 4]) (c:=q123) hP fun ρ h0 h1=>?_
 unfold q123
 simp only [h0,h1,hx1,go_sem,Nat.reduceEqDiff,reduceIte,Nat.reduceAdd]
 refine zh (z4c (E:=E.noPan) hP h hN hpre hkl) ?_
 rintro r L1 ⟨rfl,rfl⟩
 rw [hl]
 have hpl:(ZZ (tkKV l)).length=l.length:=by simp [ZZ,tkKV]
 have ln:lenOf (.isl (ZZ (tkKV l)))=some l.length:=by rw [<-hpl];rfl
 simp only [zC ln,go_sem,Nat.reduceEqDiff,reduceIte]
 refine zT (fun n ρ M=>∃i:Nat,i<=l.length/\n=l.length - i/\ρ 16=.isl (ZZ (tkKV l))/\ρ 17=.int .i64 l.length/\ρ 18=.int .i64 i/\Keep none' L1 M/\ji 13 L1 M (ρ 5) (Yn (l.take i)))
  ⟨0,by omega,rfl,by simp only [go_sem,Nat.reduceEqDiff,reduceIte],by simp only [go_sem,Nat.reduceEqDiff,reduceIte],by simp only [go_sem,Nat.reduceEqDiff,reduceIte]<;>rfl,Keep.refl,.inl ⟨by simp only [go_sem,Nat.reduceEqDiff,reduceIte],rfl⟩⟩ ?_
 clear h0 h1 ρ
 rintro n ρ M ⟨i,hi,rfl,h16,h17,h18,kM,hR⟩
 obtain ⟨v5,h5⟩:∃v,ρ 5=v:=⟨_,rfl⟩
 rw [h5] at hR
 by_cases hc:i<l.length
 ·have f1:((i:Int)<(l.length:Int))=True:=eq_true (by omega)
  have e0:((0:Int)<=(i:Int))=True:=eq_true (by omega)
  obtain ⟨q,hq⟩:∃q,l[i]?=some q:=⟨l[i],List.getElem?_eq_getElem hc⟩
  have hqm:q∈l:=List.mem_of_getElem? hq
  have hqo:=ho q hqm
  have hqp:=hqo.plain
  have hql:=hqo.len
  have hq1:=hqo.2.2.1
  have hq2:=hqo.2.2.2.1
  have n1:(i<(ZZ (tkKV l)).length)=True:=eq_true (by omega)
  have gd:(ZZ (tkKV l)).getD i []=[.str q.1,.str (strOf q.2.bytes)]:=by rw [List.getD_eq_getElem?_getD];simp [ZZ,tkKV,hq]
  have hR2:Rows 2 (ZZ (tkKV l))=True:=eq_true (fun r hr=>by obtain ⟨p,_,rfl⟩:=List.mem_map.1 hr;rfl)
  have hfv:((strOf q.2.bytes).length<=9223372036854775807)=True:=eq_true (by rw [hqp.len];omega)
  have w1:IntKind.i64.wrap ((i:Int)+1)=((i+1:Nat):Int):=by rw [wrap64 (by omega) (by omega)];rfl
  simp only [h16,h17,h18,f1,e0,gd,hR2,hpl,hfv,Int.toNat_natCast,go_sem,Nat.reduceEqDiff,reduceIte,Nat.reduceAdd,Nat.reduceLT]
  refine ⟨hc,?_⟩
  refine Y9 (args':=[.isl q.2.bytes]) ?_ (z2h (E:=E.noPan) hP hqo) rfl rfl ?_
  ·rw [We rfl,hqp.rows]
  have hce:cellsOf (.agg q.2.rcells)=q.2.rcells:=rfl
  have hcl:q.2.rcells.length=13:=rfl
  have hca:q.2.rcells.all zJ=true:=rfl
  have htk:q.2.rcells.take 13=q.2.rcells:=rfl
  simp only [h5,hce,hcl,hca,htk,go_sem,Nat.reduceEqDiff,reduceIte,Nat.reduceAdd,Nat.reduceLT]
  have k3:Keep none' M (M++[Blk.cells 2 [[IV.str q.1,IV.str (strOf q.2.bytes)]]]++[Blk.tcells 5 1 (zi (strOf q.2.bytes))]++[Blk.cells 13 [q.2.rcells]]):=Keep.app (Keep.app (Keep.app Keep.refl))
  refine z5i (hR.keep k3) (kM.trans k3 fun _ _ h=>h) (by simp [Yn];omega) (by decide) (fun r hr=>by simp only [List.mem_singleton] at hr;subst hr;exact ⟨rfl,rfl⟩) (fun w M3 kM3 hR3'=>?_)
  simp only [h16,h17,h18,w1,go_sem,Nat.reduceEqDiff,reduceIte]
  have ht:l.take (i+1)=l.take i++[q]:=by rw [List.take_add_one,hq];rfl
  exact ⟨l.length - (i+1),by omega,i+1,by omega,rfl,rfl,kM3,by rw [ht];unfold Yn at hR3' ⊢;rw [List.map_append];exact hR3'⟩
 ·have f1:((i:Int)<(l.length:Int))=False:=eq_false (by omega)
  simp only [h17,h18,h5,f1,go_sem,Nat.reduceEqDiff,reduceIte]
  have hil:i=l.length:=by omega
  subst hil
  rw [List.take_length] at hR
  exact ⟨hR,kM⟩
theorem z1L (hP:E.P=Tryz.prog) {x s N:Nat} {F:Nat->Prop} {fence:Int} {d:KV} {l:List (List UInt8 × Zc)} (hx:L[x]?=some (exB s)) (h:zt L s F N fence d) (hN:d.length<=900000) (hkl:∀p∈d,p.1.length<=1000) (hl:d.list [100,47]=tkKV l) (ho:∀q∈l,q.2.ok) (hll:l.length<=100000) :
  XT E 50 [.ptr x 0 0] L fun r L'=>r=.isl (Yn l)/\L'=L:=by
 refine xt1 (fn:=Tryz.f50) (rs:=[.tmp 2]) (c:=q50) hP fun ρ h0=>?_
 unfold q50
 simp only [h0,go_sem,Nat.reduceEqDiff,reduceIte]
 refine zh (zaQ (E:=E.noPan) hP hx h hN (by decide) hkl hl ho hll) ?_
 rintro r L' ⟨rfl,rfl⟩
 simp only [go_sem,Nat.reduceEqDiff,reduceIte]
end
end Go.X.TryzW
end
section
open Go Go.X Go.Proofs
set_option maxRecDepth 100000
set_option maxHeartbeats 4000000
namespace Go.X.TryzW
section
variable {E:Env} {ρ:Rho} {L:List Blk} {K:IV->List Blk->Prop}
theorem zal {u v r:Value} {KV:IV->List Blk->Prop} (h:WO .add u v=some (.raw r)):xop E (.bin .add (.c (.raw u)) (.c (.raw v))) cev L KV=KV (.raw r) L:=by
 simp only [xop,xbin,zU,h,sij,exists_eq_left']
theorem zbB {KV:IV->List Blk->Prop} {k:IntKind} {s:FloatKind} {b g:Nat} {n:Int} (h:floatToIntVal s b k=some n):xex E (.ru (.toInt k)) [.raw (.float s b)] g L KV=KV (.int k n) L:=by
 simp only [xex,z3W,h,Option.map_some,sij,exists_eq_left']
theorem zbZ (hP:E.P=Tryz.prog) {c t s n m:Nat} (hc:L[c]?=some (ctxB t s n (fl n) (fl m) true)) (hm:m<65):XT E 57 [.ptr c 0 0] L fun r L'=>r=.int .i64 m/\L'=L:=by
 have lc:=zg hc
 unfold ctxB at hc
 have f1:=zeb m hm
 refine xt1 (fn:=Tryz.f57) (rs:=[.tmp 2]) (c:=q57) hP fun ρ h0=>?_
 unfold q57
 simp only [h0,hc,zbB f1,go_sem,Nat.reduceEqDiff,reduceIte,Nat.reduceAdd,Nat.reduceLT]
theorem zbL (hP:E.P=Tryz.prog) {c t s n m:Nat} (hc:L[c]?=some (ctxB t s n (fl n) (fl m) true)) (hn:n<65) (hm:m<64) :
  XT E 112 [.ptr c 0 0] L fun r L'=>r=.tup [.raw (.complex .f64 (fl n) (fl (m+1))),.int .i64 0]/\L'=L.set c (ctxB t s n (fl n) (fl (m+1)) true):=by
 have lc:=zg hc
 have hc1:=hc
 unfold ctxB at hc
 have hA:WO .add (.complex .f64 (fl n) (fl m)) (.complex .f64 0 4607182418800017408)=some (.raw (.complex .f64 (fl n) (fl (m+1)))):=by
  have e:=z7T (a:=n) (b:=m) hn hm
  rw [z9l,z8j] at e
  simp [WO,e]
 have f1:((4503599627370496:Int)<=(m:Int))=False:=eq_false (by omega)
 refine xt1 (fn:=Tryz.f112) (rs:=[.tmp 2,.tmp 3]) (c:=q112) hP fun ρ h0=>?_
 unfold q112
 simp only [h0,hc,go_sem,Nat.reduceEqDiff,reduceIte,Nat.reduceAdd,Nat.reduceLT]
 refine zh (zbZ (E:=E.noPan) hP hc1 (by omega)) ?_
 rintro r L1 ⟨rfl,rfl⟩
 simp only [h0,hc,lc,f1,zal hA,go_sem,Nat.reduceEqDiff,reduceIte,Nat.reduceAdd,Nat.reduceLT,Nat.reduceLeDiff]
 exact ⟨rfl,rfl⟩
def Zc.withId (t:Zc) (re im:Nat):Zc:=⟨t.kind,re,im,fl re,fl im,t.flow,t.node,t.try_,t.at_⟩
theorem z6B (hP:E.P=Tryz.prog) {g:Nat} {cs:List IV} (hg:L[g]?=some (.cells 13 [cs])) (hc:yj 13 [cs]):XT E 111 [.sl g 0 1 1] L fun r L'=>∃g',r=.sl g' 0 1 1/\L.length<=g'/\L'[g']?=some (.cells 13 [cs])/\Keep none' L L':=by
 refine xt1 (fn:=Tryz.f111) (rs:=[.tmp 2]) (c:=q111) hP fun ρ h0=>?_
 unfold q111
 simp only [h0,go_sem,Nat.reduceEqDiff,reduceIte,Nat.reduceAdd]
 have hlg:=zf hg
 refine ⟨?_,fun h=>h.elim⟩
 refine Yg (rows:=[]) (n:=0) (by simp) rfl (Zz (Zl hg) rfl) hc (by simp) (by simp) ?_
 simp only [go_sem,Nat.reduceEqDiff,reduceIte]
 refine ⟨_,rfl,by simp,?_,Keep.app (Keep.app Keep.refl)⟩
 rw [List.getElem?_append_right (by simp)]
 simp
theorem z7Y (hP:E.P=Tryz.prog) {L0:List Blk} {b x c t s n m g:Nat} {l:List OpV} {sz:Int} {tk:Zc} (hg6:E.gl 6=some dbT) (hB:Yo L0 L b x l sz) (hc:L0[c]?=some (ctxB t s n (fl n) (fl m) true)) (hcL:L[c]?=some (ctxB t s n (fl n) (fl m) true)) (hg:L[g]?=some (.cells 13 [tk.cells]))
  (ht:(tk.withId n (m+1)).ok) (hk1:tk.kind=1) (hn:n<65) (hm:m<64) (hl:l.length<=1000) :
  XT E 47 [.ptr b 0 0,.ptr c 0 0,.sl g 0 1 1] L fun r L'=>∃g',r=.tup [.sl g' 0 1 1,.int .i64 0]/\L'[g']?=some (.cells 13 [(tk.withId n (m+1)).cells])/\L'[c]?=some (ctxB t s n (fl n) (fl (m+1)) true)/\
   ∃F,ZE L' b x (l++[⟨dpK n (m+1),strOf (tk.withId n (m+1)).bytes,false⟩]) sz F/\(∀u,F u->L0.length<=u)/\Keep (fun u=>u=c) L0 L'/\¬F g'/\L0.length<=g':=by
 refine xt3 (fn:=Tryz.f47) (rs:=[.tmp 6,.tmp 7]) (c:=q47) hP fun ρ h0 h1 h2=>?_
 unfold q47
 simp (maxDischargeDepth:=12) only [h2,go_sem,Nat.reduceEqDiff,reduceIte]
 refine zh (z6B (E:=E.noPan) hP hg (fun r hr=>by simp only [List.mem_singleton] at hr;subst hr;exact ⟨rfl,rfl⟩)) ?_
 rintro r L1 ⟨g',rfl,hgl,gg,k1⟩
 have hc1:=k1.get hcL fun h=>h
 have hB1:=hB.keep k1
 have ln:lenOf (.sl g' 0 1 1)=some 1:=rfl
 simp (maxDischargeDepth:=12) only [zC ln,go_sem,Nat.reduceEqDiff,reduceIte]
 refine zT (fun q ρ M=>(q=1/\M=L1/\ρ 0=.ptr b 0 0/\ρ 1=.ptr c 0 0/\ρ 8=.sl g' 0 1 1/\ρ 18=.int .i64 1/\ρ 19=.int .i64 0)\/(q=0/\ρ 8=.sl g' 0 1 1/\ρ 18=.int .i64 1/\ρ 19=.int .i64 1/\M[g']?=some (.cells 13 [(tk.withId n (m+1)).cells])/\M[c]?=some (ctxB t s n (fl n) (fl (m+1)) true)/\
   ∃F,ZE M b x (l++[⟨dpK n (m+1),strOf (tk.withId n (m+1)).bytes,false⟩]) sz F/\(∀u,F u->L0.length<=u)/\Keep (fun u=>u=c) L0 M/\¬F g'/\L0.length<=g'))
  (.inl ⟨rfl,rfl,by simp (maxDischargeDepth:=12) only [h0,go_sem,Nat.reduceEqDiff,reduceIte],by simp (maxDischargeDepth:=12) only [h1,go_sem,Nat.reduceEqDiff,reduceIte],by simp (maxDischargeDepth:=12) only [go_sem,Nat.reduceEqDiff,reduceIte],by simp (maxDischargeDepth:=12) only [go_sem,Nat.reduceEqDiff,reduceIte],by simp (maxDischargeDepth:=12) only [go_sem,Nat.reduceEqDiff,reduceIte]⟩) ?_
 clear h0 h1 h2 ρ
 rintro q ρ M (⟨rfl,rfl,h0,h1,h8,h18,h19⟩ | ⟨rfl,h8,h18,h19,j1,j2,j3⟩)
 rotate_left
 ·simp (maxDischargeDepth:=12) only [h8,h18,h19,go_sem,Nat.reduceEqDiff,reduceIte,Int.reduceLT]
  exact ⟨_,rfl,j1,j2,j3⟩
 have lg:=zg gg
 have gg1:=gg
 unfold Zc.cells at gg1
 rw [hk1] at gg1
 simp (maxDischargeDepth:=12) only [h1,h8,h18,h19,gg1,go_sem,Nat.reduceEqDiff,reduceIte,Int.reduceEq,Int.reduceLT,Int.reduceLE,Nat.reduceAdd,Int.reduceToNat]
 refine zh (zbL (E:=E.noPan) hP hc1 hn hm) ?_
 rintro r M1 ⟨rfl,rfl⟩
 obtain ⟨F,b1,b2,b3⟩:=hB
 have hcl0:=zf hc
 have hcg:(c=g')=False:=eq_false (by have:=b3.1;omega)
 have hic:zJ (.raw (.complex .f64 (fl n) (fl (m+1))))=true:=rfl
 have lgM:=zf gg
 have lcM:=zg hc1
 simp (maxDischargeDepth:=12) only [gg1,lg,hcg,hic,go_sem,Nat.reduceEqDiff,reduceIte,Int.reduceEq,Int.reduceLT,Nat.reduceAdd,Nat.reduceLT,Nat.reduceLeDiff,Int.reduceToNat]
 obtain ⟨M2,hM2⟩:∃M2,(M.set c (ctxB t s n (fl n) (fl (m+1)) true)).set g' (.cells 13 [(tk.withId n (m+1)).cells])=M2:=⟨_,rfl⟩
 have hM2':(M.set c (ctxB t s n (fl n) (fl (m+1)) true)).set g' (.cells 13 [[.int .i64 1,.raw (.complex .f64 (fl n) (fl (m+1))),.str tk.flow,.str tk.node,.int .i64 tk.try_,.int .i64 tk.at_,.int .i64 0,.str [],.str [],.str [],.str [],.str [],.int .i64 0]])=M2:=by
  rw [<-hM2];unfold Zc.cells Zc.withId;rw [hk1];rfl
 have g2:M2[g']?=some (.cells 13 [(tk.withId n (m+1)).cells]):=by rw [<-hM2,List.getElem?_set_self (by rw [lls];exact lgM)]
 have c2:M2[c]?=some (ctxB t s n (fl n) (fl (m+1)) true):=by rw [<-hM2,List.getElem?_set_ne (fun h=>of_eq_false hcg h.symm),List.getElem?_set_self (zf hc1)]
 have kM2:Keep (fun u=>u=c\/u=g') M M2:=by rw [<-hM2];exact Keep.set (Keep.set Keep.refl fun _=>.inl rfl) fun _=>.inr rfl
 rw [hM2']
 have eC:[IV.int .i64 1,.raw (.complex .f64 (fl n) (fl (m+1))),.str tk.flow,.str tk.node,.int .i64 tk.try_,.int .i64 tk.at_,.int .i64 0,.str [],.str [],.str [],.str [],.str [],.int .i64 0]=(tk.withId n (m+1)).cells:=by unfold Zc.cells Zc.withId;rw [hk1];rfl
 have gq2:=g2
 rw [<-eC] at gq2
 have l2:=zg g2
 rw [eC]
 refine zh (z7n (E:=E.noPan) hP ht) ?_
 rintro r M3 ⟨rfl,rfl⟩
 have hpl:=ht.plain
 have hid:=ht.2.1
 simp (maxDischargeDepth:=12) only [h0,gq2,go_sem,Nat.reduceEqDiff,reduceIte,Int.reduceEq,Int.reduceLT,Nat.reduceAdd,Nat.reduceLT,Int.reduceToNat]
 refine zq (args':=[.raw (.complex .f64 (fl n) (fl (m+1)))]) rfl (jY (E:=E.noPan) hP hg6 hid.1 hid.2.1 hid.2.2) rfl ?_
 simp (maxDischargeDepth:=12) only [go_sem,Nat.reduceEqDiff,reduceIte,Int.reduceEq,Int.reduceLT,Int.reduceToNat]
 have hFc:¬F c:=fun h=>by have:=b2 c h;omega
 have hFg:¬F g':=fun h=>by have:=b1.lt.2.2 g' h;omega
 have b1':=b1.keep ((k1.mono (F':=fun u=>u=c\/u=g') fun _ _ h=>h.elim).trans kM2 fun _ _ h=>h) (fun u h1 h2=>by rcases h2 with rfl | rfl<;>contradiction)
 refine zh (z1l (E:=E.noPan) (s:=strOf (tk.withId n (m+1)).bytes) hP b1' (fun M _=>hpl.str) (by omega)) ?_
 rintro r M4 ⟨rfl,⟨F4,b4,hG4⟩,hk4⟩
 have w1:IntKind.i64.wrap (0+1)=1:=by decide
 simp (maxDischargeDepth:=12) only [wi64,h0,h1,h8,h18,h19,go_sem,Nat.reduceEqDiff,reduceIte,Int.reduceEq,Int.reduceLT,Int.reduceLE,Int.reduceToNat,Int.reduceAdd,Int.reduceNeg]
 have hgF:¬F g':=hFg
 refine ⟨0,by omega,.inr ⟨rfl,hk4.get g2 hFg,hk4.get c2 hFc,F4,b4,fun u hu=>?_,?_,fun h=>?_,?_⟩⟩
 ·rcases hG4 u hu with h | h
  ·exact b2 u h
  ·have:=b3.1
   have:=k1.1
   have:=kM2.1
   omega
 ·have q1:Keep (fun u=>u=c) L0 M:=(b3.trans k1 fun _ _ h=>h).mono fun _ _ h=>h.elim
  have q2:Keep (fun u=>u=c) L0 M3:=q1.trans kM2 fun u hu h=>by
   rcases h with h | h
   ·exact h
   ·have:=b3.1;omega
  exact q2.trans hk4 fun u hu h=>by have:=b2 u h;omega
 ·rcases hG4 _ h with h | h
  ·exact hFg h
  ·have:=zf g2;omega
 ·have:=b3.1;omega
end
end Go.X.TryzW
end
section
open Go Go.X Go.Proofs
set_option maxRecDepth 100000
set_option maxHeartbeats 4000000
namespace Go.X.TryzW
def q48 : XC :=(sO [oO 4 (.box (.t 0)),oO 6 (.box (.t 2))] (sO [oL 14 4,oN 15 14,oF 16 0 15,oL 17 16,oM 18 1,oC 19 58 [.t 17,.t 18],oM 8 19,oI 9 0] (.seq (sO [oM 20 8,oY 21 20,oK 22 .gtr 21 0] (cT 22 (.seq (.drawE [oM 24 8,oM 25 8,oY 26 25,oK 27 .sub 26 1,oO 28 (.idxS 3 (.t 24) (.t 27)),oF 29 0 28,oL 30 29,oM 31 1,oQ 32 116 [.t 31],oO 33 (.lenS (.t 32)),oO 34 (.sliceS (.t 30) (some (.t 33)) none),oQ 35 115 [.t 34,(oi 16),(oi 64)],oM 23 35,oX 36 0 23,oX 37 1 23,oM 10 36,oM 11 37]) (.ops [oM 38 10,oK 39 .add 38 1,oM 9 39])) .skip)) (sO [oM 40 8,oO 41 (.mkfn (.func 118) [] [.t 6,.t 4]),oC 42 117 [.t 40,.t 41],oM 8 42] (.seq (.block 0 (.loop (.seq (sO [oM 43 8,oY 44 43,oK 45 .geq 44 64] (cT 45 .skip (.exit 0))) (.block 1 (.seq (.drawE [oL 46 4,oM 47 8,oO 48 (.idxS 3 (.t 47) (oi 0)),oF 49 0 48,oL 50 49,oC 51 119 [.t 46,.t 50]]) (.ops [oM 52 8,oO 53 (.slice 3 (.t 52) (some (oi 1)) none),oM 8 53])))))) (sO [oL 55 6,oM 56 3,oO 57 (.build [(.str []),(.str []),(.bool false)] [(0,(1,(.t 55))),(1,(1,(.t 56)))]),oO 58 (.bslice 3 [(.str []),(.str []),(.bool false)] 1 [(0,(.t 57))]),oC 59 120 [.t 58],oM 54 59,oX 60 0 54,oX 61 1 54,oM 12 60,oM 13 61] (.drawE [oL 62 4,oM 63 1,oM 64 9,oQ 65 121 [.t 63,.t 64],oM 66 12,oC 67 41 [.t 62,.t 65,.t 66]])))))))
def q117 : XC :=(sO [oV 4 .nsl] (sO [oM 8 0,oM 9 1,oC 10 180 [.t 8,.t 9],oM 5 10] (.seq (sO [oM 11 5,oO 12 (.bin .eql (.t 11) (.c (.int .i64 (-1))))] (cT 12 (sO [oM 13 0,oM 4 13] .ret) .skip)) (.seq (sO [oM 14 5,oK 15 .add 14 1,oM 6 15] (.block 0 (.loop (.seq (sO [oM 16 6,oM 17 0,oY 18 17,oB 19 .lss 16 18] (cT 19 .skip (.exit 0))) (.seq (.block 1 (sO [oM 22 0,oM 23 6,oO 24 (.idxS 3 (.t 22) (.t 23)),oO 25 (.loadN 3 (.t 24)),oO 7 (.alloc [(.str []),(.str []),(.str [])]),oU (.store 3 (.t 7) (.t 25))] (sO [oM 26 1,oO 27 (.loadN 3 (.t 7)),oO 28 (.call (.t 26) [.t 27]),oO 29 (.un .not (.t 28))] (cT 29 (sO [oM 30 0,oM 31 5,oO 32 (.loadN 3 (.t 7)),oO 33 (.idxS 3 (.t 30) (.t 31)),oU (.store 3 (.t 33) (.t 32))] (.ops [oM 34 5,oK 35 .add 34 1,oM 5 35])) .skip)))) (.ops [oM 20 6,oK 21 .add 20 1,oM 6 21])))))) (.seq .bad (sO [oM 39 0,oM 40 5,oO 41 (.slice 3 (.t 39) none (some (.t 40))),oM 4 41] .ret))))))
def q180 : XC :=(sO [oI 4 0] (.seq (sO [oM 6 0,oY 7 6,oI 8 0] (.block 0 (.loop (sO [oB 9 .lss 8 7] (.seq (cT 9 .skip (.exit 0)) (.seq (.block 1 (sO [oM 10 8,oM 5 10] (sO [oM 11 1,oM 12 0,oM 13 5,oO 14 (.idxS 3 (.t 12) (.t 13)),oO 15 (.loadN 3 (.t 14)),oO 16 (.call (.t 11) [.t 15])] (cT 16 (sO [oM 17 5,oM 4 17] .ret) .skip)))) (.ops [oK 18 .add 8 1,oM 8 18]))))))) (sO [oO 4 (.mov (.c (.int .i64 (-1))))] .ret)))
section
variable {E:Env} {ρ:Rho} {L:List Blk} {K:IV->List Blk->Prop}
theorem z7X (hP:E.P=Tryz.prog) {f:IV}:XT E 180 [.isl [],f] L fun r L'=>r=.int .i64 (-1)/\L'=L:=by
 refine xt2 (fn:=Tryz.f180) (rs:=[.tmp 4]) (c:=q180) hP fun ρ h0 h1=>?_
 unfold q180
 have ln:lenOf (.isl [])=some 0:=rfl
 simp only [h0,zC ln,go_sem,Nat.reduceEqDiff,reduceIte]
 refine zT (fun n ρ M=>n=0/\M=L/\ρ 7=.int .i64 0/\ρ 8=.int .i64 0) ⟨rfl,rfl,by simp only [go_sem,Nat.reduceEqDiff,reduceIte]<;>rfl,by simp only [go_sem,Nat.reduceEqDiff,reduceIte]⟩ ?_
 clear h0 h1 ρ
 rintro n ρ M ⟨rfl,rfl,h7,h8⟩
 simp only [h7,h8,go_sem,Nat.reduceEqDiff,reduceIte,Int.reduceLT,Int.reduceNeg]
theorem z6c (hP:E.P=Tryz.prog) {f:IV}:XT E 117 [.isl [],f] L fun r L'=>r=.isl []/\L'=L:=by
 refine xt2 (fn:=Tryz.f117) (rs:=[.tmp 4]) (c:=q117) hP fun ρ h0 h1=>?_
 unfold q117
 simp only [h0,h1,go_sem,Nat.reduceEqDiff,reduceIte]
 refine zh (z7X (E:=E.noPan) hP) ?_
 rintro r L' ⟨rfl,rfl⟩
 simp only [h0,go_sem,Nat.reduceEqDiff,reduceIte,Int.reduceNeg]
theorem z1T (hP:E.P=Tryz.prog) {b x s N:Nat} {F FB:Nat->Prop} {fence:Int} {d:KV} {l:List OpV} {sz:Int} {rq an:List UInt8} (hg6:E.gl 6=some dbT) (hB:ZE L b x l sz FB) (hx:L[x]?=some (exB s)) (h:zt L s F N fence d) (hN:d.length<=900000) (hkl:∀p∈d,p.1.length<=1000) (hd:d.list [114,47,48,48,48,47]=[])
  (hr:rq.length<=5000) (ha:an.length<=5000) (hl:l.length<=1000) :
  XT E 48 [.ptr b 0 0,.int .i64 0,.str rq,.str an] L fun r L'=>r=.tup []/\(∃F',ZE L' b x (l++[⟨rqK 0,strOf (opsR [⟨rq,an,false⟩]),false⟩]) sz F'/\Grown FB F' L L')/\Keep FB L L':=by
 have hbb:∃v m,L[b]?=some (.cells 5 [[.ptr x 0 0,v,.mp m,.int .i64 sz,.bool false]]):=by
  obtain ⟨v,m,h1,_⟩:=id hB
  exact ⟨v,m,h1⟩
 obtain ⟨v,m,hb⟩:=hbb
 have hbl:=zf hb
 have hqp:=RqV.ok.plain (q:=⟨[],rq,an⟩) ⟨hr,ha⟩
 refine xt4 (fn:=Tryz.f48) (rs:=[]) (c:=q48) hP fun ρ h0 h1 h2 h3=>?_
 unfold q48
 simp (maxDischargeDepth:=12) only [h0,h2,go_sem,Nat.reduceEqDiff,reduceIte]
 obtain ⟨t4,ht4⟩:∃t,L.length=t:=⟨_,rfl⟩
 obtain ⟨t6,ht6⟩:∃t,(L++[Blk.cells 1 [[IV.ptr b 0 0]]]).length=t:=⟨_,rfl⟩
 have n6:t6=t4+1:=by rw [<-ht6,<-ht4];simp
 have k1:Keep none' L (L++[Blk.cells 1 [[IV.ptr b 0 0]]]++[Blk.cells 1 [[IV.str rq]]]):=Keep.app (Keep.app Keep.refl)
 have g4:(L++[Blk.cells 1 [[IV.ptr b 0 0]]]++[Blk.cells 1 [[IV.str rq]]])[t4]?=some (.cells 1 [[.ptr b 0 0]]):=by rw [<-ht4];simp []
 have g6:(L++[Blk.cells 1 [[IV.ptr b 0 0]]]++[Blk.cells 1 [[IV.str rq]]])[t6]?=some (.cells 1 [[.str rq]]):=by rw [<-ht6];simp
 rw [ht4,ht6]
 generalize L++[Blk.cells 1 [[IV.ptr b 0 0]]]++[Blk.cells 1 [[IV.str rq]]]=L1 at *
 have hb1:=k1.get hb fun h=>h
 have lb1:=zg hb1
 have l4:=zg g4
 have l6:=zg g6
 simp (maxDischargeDepth:=12) only [h1,hb1,go_sem,Nat.reduceEqDiff,reduceIte,Nat.reduceAdd]
 refine zh (JJ (E:=E.noPan) (l:=[]) hP (k1.get hx fun h=>h) (h.keep k1 fun _ _ h=>h) hN hkl hd (fun q hq=>nomatch hq) (by decide)) ?_
 rintro r L2 ⟨rfl,rfl⟩
 have ln:lenOf (.isl (List.map RqV.row []))=some 0:=rfl
 have ln2:lenOf (.isl [])=some 0:=rfl
 simp (maxDischargeDepth:=12) only [go_sem,Nat.reduceEqDiff,reduceIte,Int.reduceLT]
 refine zh (z6c (E:=E.noPan) hP) ?_
 rintro r L3 ⟨rfl,rfl⟩
 simp (maxDischargeDepth:=12) only [go_sem,Nat.reduceEqDiff,reduceIte,Int.reduceLT]
 refine zT (fun n ρ M=>n=0/\M=L3/\ρ 1=.int .i64 0/\ρ 3=.str an/\ρ 4=.ptr t4 0 0/\ρ 6=.ptr t6 0 0/\ρ 8=.isl []/\ρ 9=.int .i64 0) ⟨rfl,rfl,by simp (maxDischargeDepth:=12) only [h1,go_sem,Nat.reduceEqDiff,reduceIte],by simp (maxDischargeDepth:=12) only [h3,go_sem,Nat.reduceEqDiff,reduceIte],by simp (maxDischargeDepth:=12) only [go_sem,Nat.reduceEqDiff,reduceIte],by simp (maxDischargeDepth:=12) only [go_sem,Nat.reduceEqDiff,reduceIte],by simp (maxDischargeDepth:=12) only [go_sem,Nat.reduceEqDiff,reduceIte],by simp (maxDischargeDepth:=12) only [go_sem,Nat.reduceEqDiff,reduceIte]⟩ ?_
 clear h0 h1 h2 h3 ρ
 rintro n ρ L3 ⟨rfl,rfl,h1,h3,h4,h6,h8,h9⟩
 simp (maxDischargeDepth:=12) only [h3,h6,h8,zC ln2,g6,go_sem,Nat.reduceEqDiff,reduceIte,Int.reduceLE,Nat.reduceAdd,Nat.reduceLeDiff]
 obtain ⟨ob,hob⟩:∃ob,L3.length=ob:=⟨_,rfl⟩
 have k3:Keep none' L3 (L3++[Blk.cells 3 [[IV.str rq,IV.str an,IV.bool false]]]):=Keep.app Keep.refl
 have go:(L3++[Blk.cells 3 [[IV.str rq,IV.str an,IV.bool false]]])[ob]?=some (.cells 3 (zA [⟨rq,an,false⟩])):=by rw [<-hob];simp [zA,OpV.row]
 rw [hob]
 generalize L3++[Blk.cells 3 [[IV.str rq,IV.str an,IV.bool false]]]=L4 at *
 refine zh (zbq (E:=E.noPan) (l:=[⟨rq,an,false⟩]) hP go (by simp) (fun o ho=>by simp only [List.mem_singleton] at ho;subst ho;exact ⟨by show rq.length<=_;omega,by show an.length<=_;omega,fun h=>by cases h⟩)) ?_
 rintro r L5 ⟨v5,rfl,⟨g5,rfl,hg5,hg5b,hbr⟩,k5⟩
 have k35:Keep none' L3 L5:=k3.trans k5 fun _ _ h=>h
 have g45:=k35.get g4 fun h=>h
 have l45:=zg g45
 simp (maxDischargeDepth:=12) only [h1,h4,h9,g45,go_sem,Nat.reduceEqDiff,reduceIte,Int.reduceLE,Nat.reduceAdd,Nat.reduceLT]
 refine Zt (args':=[.int .i64 0,.int .i64 0]) rfl (z06 (E:=E.noPan) (i:=0) hP hg6 (by decide)) (fun _=>rfl) ?_
 simp (maxDischargeDepth:=12) only [go_sem,Nat.reduceEqDiff,reduceIte,Int.reduceLE]
 have hlen5:(opsR [⟨rq,an,false⟩]).length=(strOf (opsR [⟨rq,an,false⟩])).length:=hqp.len.symm
 have kL5:Keep none' L L5:=k1.trans k35 fun _ _ h=>h
 refine zh (z1l (E:=E.noPan) (s:=strOf (opsR [⟨rq,an,false⟩])) hP (hB.keep kL5 fun _ _ h=>h) (fun M hM=>?_) (by omega)) ?_
 ·show (rowsOf M (.sl g5 0 (opsR [⟨rq,an,false⟩]).length (opsR [⟨rq,an,false⟩]).length)).bind (mapO byteOf)=some (strOf (opsR [⟨rq,an,false⟩]))
  rcases hg5b with h5 | h5
  ·rw [yF (hM.get h5 fun h=>h) rfl];exact hqp.str
  ·rw [WY (hM.get h5 fun h=>h) rfl];exact hqp.str
 rintro r L6 ⟨rfl,⟨F6,b6,hG6⟩,k6⟩
 simp (maxDischargeDepth:=12) only [go_sem,Int.reduceLE]
 refine ⟨⟨F6,b6,fun u hu=>?_⟩,(kL5.mono (F':=FB) fun _ _ h=>h.elim).trans k6 fun _ _ h=>h⟩
 rcases hG6 u hu with h | h
 ·exact .inl h
 ·right;have:=kL5.1;omega
end
end Go.X.TryzW
end
