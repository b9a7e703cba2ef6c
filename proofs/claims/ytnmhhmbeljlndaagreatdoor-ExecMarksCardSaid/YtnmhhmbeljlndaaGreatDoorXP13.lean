/- Parts of the proof: Xhcodec1, Xhcodec2, Xhcodec3, Xhdisk1, Xhdisk2, Xhwal1, Xhwal2, Xhwal3, Xhwal4, Xhwal5, Xhwal6, Xhpen1. -/
import Derived.Test.YtnmhhmbeljlndaaGreatDoorXP12
import Derived.Test.YtnmhhmbeljlndaaGreatDoorProg
set_option linter.unusedVariables false
set_option linter.unusedSimpArgs false
set_option linter.unusedSectionVars false
section
open Go Go.X Go.Proofs
set_option maxRecDepth 100000
set_option maxHeartbeats 4000000
namespace Go.X.TryzW
def q202 : XC :=(sO [oV 2 (.int .u32 0)] (sO [oV 3 (.int .u32 4294967295)] (.seq (sO [oM 6 0,oY 7 6,oI 8 0] (.block 0 (.loop (sO [oB 9 .lss 8 7] (.seq (cT 9 .skip (.exit 0)) (.seq (.block 1 (sO [oO 10 (.idxS 1 (.t 6) (.t 8)),oL 11 10,oM 5 11] (sO [oM 12 3,oM 13 5,oO 14 (.cvInt .u32 (.t 13)),oB 15 .xor 12 14,oM 3 15] (sO [oI 16 0] (.block 2 (.loop (sO [oK 17 .lss 16 8] (.seq (cT 17 .skip (.exit 2)) (.seq (.block 3 (.ops [oM 18 3,oO 19 (.bin .shr (.t 18) (.c (.int .u64 1))),oM 20 3,oO 21 (.bin .and (.t 20) (.c (.int .u32 1))),oO 22 (.bin .mul (.c (.int .u32 3988292384)) (.t 21)),oB 23 .xor 19 22,oM 3 23])) (.ops [oK 24 .add 16 1,oM 16 24])))))))))) (.ops [oK 25 .add 8 1,oM 8 25]))))))) (sO [oM 26 3,oO 27 (.un .xor (.t 26)),oM 2 27] .ret))))
section
variable {E:Env} {ρ:Rho} {L:List Blk} {K:IV->List Blk->Prop}
def zx (rs:List (List IV)):Prop:=∀r∈rs,∃n:Int,r=[.int .u8 n]
def Bts (L:List Blk) (x:IV) (rs:List (List IV)):Prop:=((∃b,x=.sl b 0 rs.length rs.length/\(L[b]?=some (.cells 1 rs)\/L[b]?=some (.tcells 5 1 rs)))\/x=.isl rs)/\zx rs/\rs.length<=70368744177664
def bitS (c:Int):Int:=bxor .u32 (bshr .u32 c 1) (IntKind.u32.wrap (3988292384*band .u32 c 1))
def Jw:Nat->Int->Int
 | 0,c=>c
 | k+1,c=>bitS (Jw k c)
def byteAt (rs:List (List IV)) (i:Nat):Int:=match rs.getD i [] with
 | [.int _ v]=>v
 | _=>0
def sumN (rs:List (List IV)):Nat->Int
 | 0=>4294967295
 | i+1=>Jw 8 (bxor .u32 (sumN rs i) (IntKind.u32.wrap (byteAt rs i)))
def sumOf (rs:List (List IV)):Int:=bnot .u32 (sumN rs rs.length)
theorem z7B (hP:E.P=Tryz.prog) {x:IV} {rs:List (List IV)} (hx:Bts L x rs):XT E 202 [x] L fun r L'=>r=.int .u32 (sumOf rs)/\L'=L:=by
 obtain ⟨⟨b,rfl,hb | hb⟩ | rfl,hr,hN⟩:=hx
 ·have lb:=zg hb
  refine xt1 (fn:=Tryz.f202) (rs:=[.tmp 2]) (c:=q202) hP fun ρ h0=>?_
  unfold q202
  simp only [h0,go_sem,Nat.reduceEqDiff,reduceIte]
  refine zT (fun n ρ L'=>∃i:Nat,i<=rs.length/\n=rs.length - i/\L'=L/\ρ 6=.sl b 0 rs.length rs.length/\ρ 7=.int .i64 rs.length/\ρ 8=.int .i64 i/\ρ 3=.int .u32 (sumN rs i))
   ⟨0,Nat.zero_le _,rfl,rfl,by simp only [go_sem,Nat.reduceEqDiff,reduceIte],by simp only [go_sem,Nat.reduceEqDiff,reduceIte],by simp only [go_sem,Nat.reduceEqDiff,reduceIte]<;>rfl,by simp only [go_sem,Nat.reduceEqDiff,reduceIte]<;>rfl⟩ ?_
  clear h0 ρ
  rintro n ρ L' ⟨i,hi,rfl,rfl,h6,h7,h8,h3⟩
  by_cases hc:i<rs.length
  ·have e1:((i:Int)<(rs.length:Int))=True:=eq_true (by omega)
   have e0:((0:Int)<=(i:Int))=True:=eq_true (by omega)
   obtain ⟨v,hv⟩:=hr _ (List.getElem_mem hc)
   have hg:rs[i]?=some [.int .u8 v]:=by rw [List.getElem?_eq_getElem hc,hv]
   have hgd:rs.getD i []=[.int .u8 v]:=by rw [List.getD_eq_getElem?_getD,hg];rfl
   have hw:IntKind.i64.wrap ((i:Int)+1)=((i+1:Nat):Int):=by rw [wrap64 (by omega) (by omega)];rfl
   simp only [h3,h6,h7,h8,e1,e0,hb,hgd,hc,Int.toNat_natCast,go_sem,Nat.reduceEqDiff,reduceIte]
   refine zT (fun n' ρ L1=>∃k:Nat,k<=8/\n'=8 - k/\L1=L'/\ρ 6=.sl b 0 rs.length rs.length/\ρ 7=.int .i64 rs.length/\ρ 8=.int .i64 i/\ρ 16=.int .i64 k/\ρ 3=.int .u32 (Jw k (bxor .u32 (sumN rs i) (IntKind.u32.wrap v))))
    ⟨0,Nat.zero_le _,rfl,rfl,by simp only [h6,go_sem,Nat.reduceEqDiff,reduceIte],by simp only [h7,go_sem,Nat.reduceEqDiff,reduceIte],by simp only [h8,go_sem,Nat.reduceEqDiff,reduceIte],by simp only [go_sem,Nat.reduceEqDiff,reduceIte]<;>rfl,by simp only [go_sem,Nat.reduceEqDiff,reduceIte]<;>rfl⟩ ?_
   clear h6 h7 h8 h3 ρ
   rintro n' ρ L1 ⟨k,hk,rfl,rfl,h6,h7,h8,h16,h3⟩
   by_cases hk8:k<8
   ·have f1:((k:Int)<8)=True:=eq_true (by omega)
    have fw:IntKind.i64.wrap ((k:Int)+1)=((k+1:Nat):Int):=by rw [wrap64 (by omega) (by omega)];rfl
    simp only [h3,h6,h7,h8,h16,f1,fw,go_sem,Nat.reduceEqDiff,reduceIte,Int.reduceLE]
    exact ⟨8 - (k+1),by omega,k+1,by omega,rfl,rfl,rfl⟩
   ·have f1:((k:Int)<8)=False:=eq_false (by omega)
    simp only [h3,h6,h7,h8,h16,f1,hw,go_sem,Nat.reduceEqDiff,reduceIte]
    have hk:k=8:=by omega
    subst hk
    have hby:byteAt rs i=v:=by simp only [byteAt,hgd]
    exact ⟨rs.length - (i+1),by omega,i+1,by omega,rfl,rfl,by simp only [sumN,hby]⟩
  ·have e1:((i:Int)<(rs.length:Int))=False:=eq_false (by omega)
   simp only [h3,h7,h8,e1,go_sem,Nat.reduceEqDiff,reduceIte]
   have hil:i=rs.length:=by omega
   subst hil
   rfl
 ·have lb:=zg hb
  refine xt1 (fn:=Tryz.f202) (rs:=[.tmp 2]) (c:=q202) hP fun ρ h0=>?_
  unfold q202
  simp only [h0,go_sem,Nat.reduceEqDiff,reduceIte]
  refine zT (fun n ρ L'=>∃i:Nat,i<=rs.length/\n=rs.length - i/\L'=L/\ρ 6=.sl b 0 rs.length rs.length/\ρ 7=.int .i64 rs.length/\ρ 8=.int .i64 i/\ρ 3=.int .u32 (sumN rs i))
   ⟨0,Nat.zero_le _,rfl,rfl,by simp only [go_sem,Nat.reduceEqDiff,reduceIte],by simp only [go_sem,Nat.reduceEqDiff,reduceIte],by simp only [go_sem,Nat.reduceEqDiff,reduceIte]<;>rfl,by simp only [go_sem,Nat.reduceEqDiff,reduceIte]<;>rfl⟩ ?_
  clear h0 ρ
  rintro n ρ L' ⟨i,hi,rfl,rfl,h6,h7,h8,h3⟩
  by_cases hc:i<rs.length
  ·have e1:((i:Int)<(rs.length:Int))=True:=eq_true (by omega)
   have e0:((0:Int)<=(i:Int))=True:=eq_true (by omega)
   obtain ⟨v,hv⟩:=hr _ (List.getElem_mem hc)
   have hg:rs[i]?=some [.int .u8 v]:=by rw [List.getElem?_eq_getElem hc,hv]
   have hgd:rs.getD i []=[.int .u8 v]:=by rw [List.getD_eq_getElem?_getD,hg];rfl
   have hw:IntKind.i64.wrap ((i:Int)+1)=((i+1:Nat):Int):=by rw [wrap64 (by omega) (by omega)];rfl
   simp only [h3,h6,h7,h8,e1,e0,hb,hgd,hc,Int.toNat_natCast,go_sem,Nat.reduceEqDiff,reduceIte]
   refine zT (fun n' ρ L1=>∃k:Nat,k<=8/\n'=8 - k/\L1=L'/\ρ 6=.sl b 0 rs.length rs.length/\ρ 7=.int .i64 rs.length/\ρ 8=.int .i64 i/\ρ 16=.int .i64 k/\ρ 3=.int .u32 (Jw k (bxor .u32 (sumN rs i) (IntKind.u32.wrap v))))
    ⟨0,Nat.zero_le _,rfl,rfl,by simp only [h6,go_sem,Nat.reduceEqDiff,reduceIte],by simp only [h7,go_sem,Nat.reduceEqDiff,reduceIte],by simp only [h8,go_sem,Nat.reduceEqDiff,reduceIte],by simp only [go_sem,Nat.reduceEqDiff,reduceIte]<;>rfl,by simp only [go_sem,Nat.reduceEqDiff,reduceIte]<;>rfl⟩ ?_
   clear h6 h7 h8 h3 ρ
   rintro n' ρ L1 ⟨k,hk,rfl,rfl,h6,h7,h8,h16,h3⟩
   by_cases hk8:k<8
   ·have f1:((k:Int)<8)=True:=eq_true (by omega)
    have fw:IntKind.i64.wrap ((k:Int)+1)=((k+1:Nat):Int):=by rw [wrap64 (by omega) (by omega)];rfl
    simp only [h3,h6,h7,h8,h16,f1,fw,go_sem,Nat.reduceEqDiff,reduceIte,Int.reduceLE]
    exact ⟨8 - (k+1),by omega,k+1,by omega,rfl,rfl,rfl⟩
   ·have f1:((k:Int)<8)=False:=eq_false (by omega)
    simp only [h3,h6,h7,h8,h16,f1,hw,go_sem,Nat.reduceEqDiff,reduceIte]
    have hk:k=8:=by omega
    subst hk
    have hby:byteAt rs i=v:=by simp only [byteAt,hgd]
    exact ⟨rs.length - (i+1),by omega,i+1,by omega,rfl,rfl,by simp only [sumN,hby]⟩
  ·have e1:((i:Int)<(rs.length:Int))=False:=eq_false (by omega)
   simp only [h3,h7,h8,e1,go_sem,Nat.reduceEqDiff,reduceIte]
   have hil:i=rs.length:=by omega
   subst hil
   rfl
 ·have hR1:Rows 1 rs=True:=eq_true (fun r hr1=>by obtain ⟨n,rfl⟩:=hr r hr1;rfl)
  refine xt1 (fn:=Tryz.f202) (rs:=[.tmp 2]) (c:=q202) hP fun ρ h0=>?_
  unfold q202
  simp only [h0,go_sem,Nat.reduceEqDiff,reduceIte]
  refine zT (fun n ρ L'=>∃i:Nat,i<=rs.length/\n=rs.length - i/\L'=L/\ρ 6=.isl rs/\ρ 7=.int .i64 rs.length/\ρ 8=.int .i64 i/\ρ 3=.int .u32 (sumN rs i))
   ⟨0,Nat.zero_le _,rfl,rfl,by simp only [go_sem,Nat.reduceEqDiff,reduceIte],by simp only [go_sem,Nat.reduceEqDiff,reduceIte],by simp only [go_sem,Nat.reduceEqDiff,reduceIte]<;>rfl,by simp only [go_sem,Nat.reduceEqDiff,reduceIte]<;>rfl⟩ ?_
  clear h0 ρ
  rintro n ρ L' ⟨i,hi,rfl,rfl,h6,h7,h8,h3⟩
  by_cases hc:i<rs.length
  ·have e1:((i:Int)<(rs.length:Int))=True:=eq_true (by omega)
   have e0:((0:Int)<=(i:Int))=True:=eq_true (by omega)
   obtain ⟨v,hv⟩:=hr _ (List.getElem_mem hc)
   have hg:rs[i]?=some [.int .u8 v]:=by rw [List.getElem?_eq_getElem hc,hv]
   have hgd:rs.getD i []=[.int .u8 v]:=by rw [List.getD_eq_getElem?_getD,hg];rfl
   have hw:IntKind.i64.wrap ((i:Int)+1)=((i+1:Nat):Int):=by rw [wrap64 (by omega) (by omega)];rfl
   simp only [h3,h6,h7,h8,e1,e0,hR1,hgd,hc,Int.toNat_natCast,go_sem,Nat.reduceEqDiff,reduceIte]
   refine zT (fun n' ρ L1=>∃k:Nat,k<=8/\n'=8 - k/\L1=L'/\ρ 6=.isl rs/\ρ 7=.int .i64 rs.length/\ρ 8=.int .i64 i/\ρ 16=.int .i64 k/\ρ 3=.int .u32 (Jw k (bxor .u32 (sumN rs i) (IntKind.u32.wrap v))))
    ⟨0,Nat.zero_le _,rfl,rfl,by simp only [h6,go_sem,Nat.reduceEqDiff,reduceIte],by simp only [h7,go_sem,Nat.reduceEqDiff,reduceIte],by simp only [h8,go_sem,Nat.reduceEqDiff,reduceIte],by simp only [go_sem,Nat.reduceEqDiff,reduceIte]<;>rfl,by simp only [go_sem,Nat.reduceEqDiff,reduceIte]<;>rfl⟩ ?_
   clear h6 h7 h8 h3 ρ
   rintro n' ρ L1 ⟨k,hk,rfl,rfl,h6,h7,h8,h16,h3⟩
   by_cases hk8:k<8
   ·have f1:((k:Int)<8)=True:=eq_true (by omega)
    have fw:IntKind.i64.wrap ((k:Int)+1)=((k+1:Nat):Int):=by rw [wrap64 (by omega) (by omega)];rfl
    simp only [h3,h6,h7,h8,h16,f1,fw,go_sem,Nat.reduceEqDiff,reduceIte,Int.reduceLE]
    exact ⟨8 - (k+1),by omega,k+1,by omega,rfl,rfl,rfl⟩
   ·have f1:((k:Int)<8)=False:=eq_false (by omega)
    simp only [h3,h6,h7,h8,h16,f1,hw,go_sem,Nat.reduceEqDiff,reduceIte]
    have hk:k=8:=by omega
    subst hk
    have hby:byteAt rs i=v:=by simp only [byteAt,hgd]
    exact ⟨rs.length - (i+1),by omega,i+1,by omega,rfl,rfl,by simp only [sumN,hby]⟩
  ·have e1:((i:Int)<(rs.length:Int))=False:=eq_false (by omega)
   simp only [h3,h7,h8,e1,go_sem,Nat.reduceEqDiff,reduceIte]
   have hil:i=rs.length:=by omega
   subst hil
   rfl
theorem zeF (hP:E.P=Tryz.prog) {x:IV} {rs:List (List IV)} (hx:Bts L x rs):XT E 202 [x] L fun r L'=>(∃n:Int,r=.int .u32 n)/\L'=L:=
 (z7B hP hx).mono fun r L' h=>⟨⟨_,h.1⟩,h.2⟩
end
end Go.X.TryzW
end
section
open Go Go.X Go.Proofs
set_option maxRecDepth 100000
set_option maxHeartbeats 4000000
namespace Go.X.TryzW
def q326 : XC :=(sO [oV 4 .nsl] (.seq (sO [oM 12 0,oY 13 12,oK 14 .eql 13 0] (cT 14 (sO [oO 15 (.bslice 1 [(.int .u8 0)] 0 []),oM 4 15] .ret) .skip)) (.seq (sO [oM 16 0,oY 17 16,oK 18 .eql 17 1] (cT 18 (sO [oM 19 0,oO 20 (.idxS 1 (.t 19) (oi 0)),oL 21 20,oO 22 (.ex (.appT 5 1) [(.c .nsl),.t 21]),oM 4 22] .ret) .skip)) (sO [oI 5 0] (.seq (sO [oM 23 1,oY 24 23,oK 25 .gtr 24 0] (cT 25 (.seq (sO [oM 26 1,oY 27 26,oM 28 0,oY 29 28,oK 30 .sub 29 1,oO 31 (.bin .quo (oi 9223372036854775807) (.t 30)),oB 32 .geq 27 31] (cT 32 (.ops [oO 33 (.ex (.mkif 9) [(.c (.str [98,121,116,101,115,58,32,74,111,105,110,32,111,117,116,112,117,116,32,108,101,110,103,116,104,32,111,118,101,114,102,108,111,119]))]),oU (.ex .panic [.t 33])]) .skip)) (.ops [oM 34 5,oM 35 1,oY 36 35,oM 37 0,oY 38 37,oK 39 .sub 38 1,oB 40 .mul 36 39,oB 41 .add 34 40,oM 5 41])) .skip)) (.seq (sO [oM 42 0,oY 43 42,oI 44 0] (.block 0 (.loop (sO [oB 45 .lss 44 43] (.seq (cT 45 .skip (.exit 0)) (.seq (.block 1 (sO [oO 46 (.idxS 1 (.t 42) (.t 44)),oL 47 46,oM 7 47] (.seq (sO [oM 48 7,oY 49 48,oM 50 5,oO 51 (.bin .sub (oi 9223372036854775807) (.t 50)),oB 52 .gtr 49 51] (cT 52 (.ops [oO 53 (.ex (.mkif 9) [(.c (.str [98,121,116,101,115,58,32,74,111,105,110,32,111,117,116,112,117,116,32,108,101,110,103,116,104,32,111,118,101,114,102,108,111,119]))]),oU (.ex .panic [.t 53])]) .skip)) (.ops [oM 54 5,oM 55 7,oY 56 55,oB 57 .add 54 56,oM 5 57])))) (.ops [oK 58 .add 44 1,oM 44 58]))))))) (sO [oM 59 5,oC 60 322 [.t 59],oM 61 5,oM 62 5,oO 63 (.ex (.sl3 1) [.t 60,(oi 0),.t 61,.t 62]),oM 8 63] (sO [oM 64 8,oM 65 0,oO 66 (.idxS 1 (.t 65) (oi 0)),oL 67 66,oO 68 (.ex (.copy 1) [.t 64,.t 67]),oM 9 68] (.seq (sO [oM 69 0,oO 70 (.slice 1 (.t 69) (some (oi 1)) none),oY 71 70,oI 72 0] (.block 2 (.loop (sO [oB 73 .lss 72 71] (.seq (cT 73 .skip (.exit 2)) (.seq (.block 3 (sO [oO 74 (.idxS 1 (.t 70) (.t 72)),oL 75 74,oM 11 75] (sO [oM 76 9,oM 77 8,oM 78 9,oO 79 (.slice 1 (.t 77) (some (.t 78)) none),oM 80 1,oO 81 (.ex (.copy 1) [.t 79,.t 80]),oB 82 .add 76 81,oM 9 82] (.ops [oM 83 9,oM 84 8,oM 85 9,oO 86 (.slice 1 (.t 84) (some (.t 85)) none),oM 87 11,oO 88 (.ex (.copy 1) [.t 86,.t 87]),oB 89 .add 83 88,oM 9 89])))) (.ops [oK 90 .add 72 1,oM 72 90]))))))) (sO [oM 91 8,oM 4 91] .ret))))))))))
def q327 : XC :=(sO [oV 2 .nsl] (sO [oM 3 0,oO 4 (.bin .shr (.t 3) (.c (.int .u64 24))),oO 5 (.cvInt .u8 (.t 4)),oM 6 0,oO 7 (.bin .shr (.t 6) (.c (.int .u64 16))),oO 8 (.cvInt .u8 (.t 7)),oM 9 0,oO 10 (.bin .shr (.t 9) (.c (.int .u64 8))),oO 11 (.cvInt .u8 (.t 10)),oM 12 0,oO 13 (.cvInt .u8 (.t 12)),oO 14 (.bslice 1 [(.int .u8 0)] 4 [(0,(.t 5)),(1,(.t 8)),(2,(.t 11)),(3,(.t 13))]),oM 2 14] .ret))
def q289 : XC :=(sO [oV 2 .nsl] (sO [oM 3 0,oY 4 3,oO 5 (.cvInt .u32 (.t 4)),oC 6 327 [.t 5],oM 7 0,oC 8 202 [.t 7],oC 9 327 [.t 8],oM 10 0,oO 11 (.bslice 1 [.nsl] 3 [(0,(.t 6)),(1,(.t 9)),(2,(.t 10))]),oC 12 326 [.t 11,(.c .nsl)],oM 2 12] .ret))
section
variable {E:Env} {ρ:Rho} {L:List Blk} {K:IV->List Blk->Prop}
theorem WS {l r:List (List IV)} {k:Nat} {p:List (List IV)} (hk:l.take k=p) (hp:p.length=k) (hf:k+r.length<=l.length):(splice l k r).take (k+r.length)=p++r/\(splice l k r).length=l.length:=by
 subst hk
 refine ⟨?_,Wy hf⟩
 unfold splice
 rw [List.take_append_of_le_length (by simp;omega),List.take_of_length_le (by simp;omega)]
theorem ze7 (hP:E.P=Tryz.prog) (n:Nat) (hn:n<=281474976710656) {K:IV->List Blk->Prop} (h:∀rows:List (List IV),rows.length=n->zx rows->K (.sl L.length 0 n n) (L++[.tcells 5 1 rows])):XTX E 322 [.int .i64 n] L K:=by
 refine zbw (fn:=Tryz.f322) (t:=53) (ps:=#[3]) (by rw [hP];rfl) (by decide) (by rfl) (by kernel_rfl) (by kernel_rfl) (by rw [hP];kernel_rfl) n hn h
theorem zas (hP : E.P = Tryz.prog) {b : Nat} {p0 p1 p2 : IV} {r0 r1 r2 : List (List IV)} (hb : L[b]? = some (.cells 1 [[p0], [p1], [p2]])) (l0 : lenOf p0 = some r0.length) (l1 : lenOf p1 = some r1.length) (l2 : lenOf p2 = some r2.length)
    (x0 : ∀ L', Keep none' L L' -> rowsOf L' p0 = some r0) (x1 : ∀ L', Keep none' L L' -> rowsOf L' p1 = some r1) (x2 : ∀ L', Keep none' L L' -> rowsOf L' p2 = some r2) (c0 : yj 1 r0) (c1 : yj 1 r1) (c2 : yj 1 r2)
    (hN : r0.length + r1.length + r2.length <= 70368744177664) :
    XT E 326 [.sl b 0 3 3, .nsl] L fun r L' => r = .sl L.length 0 (r0 ++ r1 ++ r2).length (r0 ++ r1 ++ r2).length /\ L' = L ++ [.tcells 5 1 (r0 ++ r1 ++ r2)] := by
  have lb := zg hb
  have w1 : IntKind.i64.wrap (0 + (r0.length : Int)) = (r0.length : Int) := by rw [wrap64 (by omega) (by omega)]; omega
  have w2 : IntKind.i64.wrap ((r0.length : Int) + (r1.length : Int)) = ((r0.length + r1.length : Nat) : Int) := by rw [wrap64 (by omega) (by omega)]; omega
  have w3 : IntKind.i64.wrap (((r0.length + r1.length : Nat) : Int) + (r2.length : Int)) = ((r0.length + r1.length + r2.length : Nat) : Int) := by rw [wrap64 (by omega) (by omega)]; omega
  have v1 : IntKind.i64.wrap (9223372036854775807 - 0) = 9223372036854775807 := by decide
  have v2 : IntKind.i64.wrap (9223372036854775807 - (r0.length : Int)) = 9223372036854775807 - (r0.length : Int) := by rw [wrap64 (by omega) (by omega)]
  have v3 : IntKind.i64.wrap (9223372036854775807 - ((r0.length + r1.length : Nat) : Int)) = 9223372036854775807 - ((r0.length + r1.length : Nat) : Int) := by rw [wrap64 (by omega) (by omega)]
  have g1 : ((9223372036854775807 : Int) < (r0.length : Int)) = False := eq_false (by omega)
  have g2 : (9223372036854775807 - (r0.length : Int) < (r1.length : Int)) = False := eq_false (by omega)
  have g3 : (9223372036854775807 - ((r0.length + r1.length : Nat) : Int) < (r2.length : Int)) = False := eq_false (by omega)
  refine xtl' (n := Tryz.f326.ntmps) (rs := [.tmp 4]) (c := q326) (by rw [hP]; rfl) (by rw [hP]; kernel_rfl) (by decide) (Nat.le_of_ble_eq_true rfl) ?_
  generalize hρ : entry _ = ρ
  have h0 : ρ 0 = .sl b 0 3 3 := by rw [<- hρ]; rfl
  have h1 : ρ 1 = .nsl := by rw [<- hρ]; rfl
  clear hρ
  unfold q326
  simp (maxDischargeDepth := 12) only [decide_false, h0, h1, go_sem, Nat.reduceEqDiff, reduceIte, Int.reduceEq, Int.reduceLT]
  refine zT (fun n ρ L' => L' = L /\ ρ 0 = .sl b 0 3 3 /\ ρ 1 = .nsl /\ ρ 42 = .sl b 0 3 3 /\ ρ 43 = .int .i64 3 /\ ((n = 3 /\ ρ 44 = .int .i64 0 /\ ρ 5 = .int .i64 0) \/ (n = 2 /\ ρ 44 = .int .i64 1 /\ ρ 5 = .int .i64 r0.length) \/
    (n = 1 /\ ρ 44 = .int .i64 2 /\ ρ 5 = .int .i64 (r0.length + r1.length : Nat)) \/ (n = 0 /\ ρ 44 = .int .i64 3 /\ ρ 5 = .int .i64 (r0.length + r1.length + r2.length : Nat)))) (n := 3)
    ⟨rfl, by simp (maxDischargeDepth := 12) only [h0, go_sem, Nat.reduceEqDiff, reduceIte], by simp (maxDischargeDepth := 12) only [h1, go_sem, Nat.reduceEqDiff, reduceIte], by simp (maxDischargeDepth := 12) only [go_sem, Nat.reduceEqDiff, reduceIte], by simp (maxDischargeDepth := 12) only [go_sem, Nat.reduceEqDiff, reduceIte], .inl ⟨rfl, by simp (maxDischargeDepth := 12) only [go_sem, Nat.reduceEqDiff, reduceIte], by simp (maxDischargeDepth := 12) only [go_sem, Nat.reduceEqDiff, reduceIte]⟩⟩ ?_
  clear h0 h1 ρ
  rintro n ρ L' ⟨rfl, h0, h1, h42, h43, ⟨rfl, h44, h5⟩ | ⟨rfl, h44, h5⟩ | ⟨rfl, h44, h5⟩ | ⟨rfl, h44, h5⟩⟩
  · simp (maxDischargeDepth := 12) only [decide_true, decide_false, wi64, h0, h1, hb, zC l0, h42, h43, h44, h5, g1, w1, go_sem, Nat.reduceEqDiff, reduceIte, Int.reduceLT, Int.reduceLE, Nat.reduceAdd, Int.reduceToNat, Int.reduceSub, Int.reduceAdd, Int.reduceNeg]
    exact ⟨2, by omega, .inr (.inl rfl)⟩
  · simp (maxDischargeDepth := 12) only [decide_true, decide_false, wi64, h0, h1, hb, zC l1, h42, h43, h44, h5, v2, g2, w2, go_sem, Nat.reduceEqDiff, reduceIte, Int.reduceLT, Int.reduceLE, Nat.reduceAdd, Nat.reduceLT, Int.reduceToNat, Int.reduceAdd, Int.reduceNeg]
    exact ⟨1, by omega, .inr (.inr (.inl rfl))⟩
  · simp (maxDischargeDepth := 12) only [decide_true, decide_false, wi64, h0, h1, hb, zC l2, h42, h43, h44, h5, v3, g3, w3, go_sem, Nat.reduceEqDiff, reduceIte, Int.reduceLT, Int.reduceLE, Nat.reduceAdd, Nat.reduceLT, Int.reduceToNat, Int.reduceAdd, Int.reduceNeg]
    exact ⟨0, by omega, .inr (.inr (.inr rfl))⟩
  · obtain ⟨N, hNe⟩ : ∃ N, r0.length + r1.length + r2.length = N := ⟨_, rfl⟩
    clear v1 v2 v3 g1 g2 g3
    rw [hNe] at h5
    simp (maxDischargeDepth := 12) only [decide_false, h43, h44, h5, go_sem, Nat.reduceEqDiff, reduceIte, Int.reduceLT]
    refine zbM (ze7 hP N (by omega) ?_)
    intro rows hrl hbr
    have n0 : ((0 : Int) <= (N : Int)) = True := eq_true (by omega)
    simp (maxDischargeDepth := 12) only [decide_false, h0, hb, lb, h5, n0, szOf, Int.le_refl, Int.sub_zero, Int.toNat_natCast, Nat.add_zero, go_sem, Nat.reduceEqDiff, reduceIte, Int.reduceLT, Int.reduceLE, Nat.reduceAdd, Nat.reduceLeDiff, Int.reduceToNat]
    refine z7H (ty := 5) (rows := rows) (x0 _ (by (repeat' first | exact Keep.refl | apply Keep.app | apply Keep.set) <;> (intro hh; first | rfl | (exfalso; first | omega | (simp only [lla,lls,llc,lln] at hh; omega))))) (by simp (maxDischargeDepth := 12) only [go_sem]) c0 (by omega) (by omega) ?_
    obtain ⟨s1, s2⟩ := WS (l := rows) (r := r0) (k := 0) (p := []) (by simp) rfl (by omega)
    simp only [Nat.zero_add,List.nil_append] at s1
    generalize splice rows 0 r0 = M at *
    simp (maxDischargeDepth := 12) only [hb, lb, go_sem]
    refine zT (fun n ρ L1 => ρ 1 = .nsl /\ ρ 70 = .sl b 1 2 2 /\ ρ 71 = .int .i64 2 /\ ρ 8 = .sl L'.length 0 N N /\ ∃ M, L1 = L' ++ [.tcells 5 1 M] /\ M.length = N /\
      ((n = 2 /\ ρ 72 = .int .i64 0 /\ ρ 9 = .int .i64 r0.length /\ M.take r0.length = r0) \/
       (n = 1 /\ ρ 72 = .int .i64 1 /\ ρ 9 = .int .i64 (r0.length + r1.length : Nat) /\ M.take (r0.length + r1.length) = r0 ++ r1) \/
       (n = 0 /\ ρ 72 = .int .i64 2 /\ ρ 9 = .int .i64 N /\ M.take N = r0 ++ r1 ++ r2))) (n := 2)
      ⟨by simp (maxDischargeDepth := 12) only [h1, go_sem, Nat.reduceEqDiff, reduceIte], by simp (maxDischargeDepth := 12) only [go_sem, Nat.reduceEqDiff, reduceIte], by simp (maxDischargeDepth := 12) only [go_sem, Nat.reduceEqDiff, reduceIte] <;> rfl, by simp (maxDischargeDepth := 12) only [go_sem, Nat.reduceEqDiff, reduceIte], M, rfl, by omega, .inl ⟨rfl, by simp (maxDischargeDepth := 12) only [go_sem, Nat.reduceEqDiff, reduceIte], by simp (maxDischargeDepth := 12) only [go_sem, Nat.reduceEqDiff, reduceIte], s1⟩⟩ ?_
    clear h0 h1 h42 h43 h44 h5 s1 s2 hbr hrl M ρ rows
    rintro n ρ L1 ⟨h1, h70, h71, h8, M, rfl, hML, ⟨rfl, h72, h9, hT⟩ | ⟨rfl, h72, h9, hT⟩ | ⟨rfl, h72, h9, hT⟩⟩
    · have q1 : ((r0.length : Int) + 0) = r0.length := by omega
      have q2 : IntKind.i64.wrap ((r0.length : Int) + 0) = r0.length := by rw [wrap64 (by omega) (by omega)]; omega
      have q3 : r0.length <= N := by omega
      have q4 : ((0 : Int) <= (r0.length : Int)) = True := eq_true (by omega)
      simp (maxDischargeDepth := 12) only [decide_true, h1, h70, h71, h8, h72, h9, hb, lb, szOf, q2, q3, q4, Int.toNat_natCast, Nat.zero_add, Nat.le_refl, go_sem, Nat.reduceEqDiff, reduceIte, Int.reduceLT, Int.reduceLE, Nat.reduceAdd, Nat.reduceLT, Int.reduceToNat]
      refine z7H (ty := 5) (rows := M) (x1 _ (by (repeat' first | exact Keep.refl | apply Keep.app | apply Keep.set) <;> (intro hh; first | rfl | (exfalso; first | omega | (simp only [lla,lls,llc,lln] at hh; omega))))) (by simp (maxDischargeDepth := 12) only [go_sem]) c1 (by omega) (by omega) ?_
      obtain ⟨s1, s2⟩ := WS hT rfl (show r0.length + r1.length <= M.length by omega)
      generalize splice M r0.length r1 = M' at *
      simp (maxDischargeDepth := 12) only [decide_true, wi64, h1, h70, h71, h8, h72, h9, w2, go_sem, Nat.reduceEqDiff, reduceIte, Int.reduceLT, Int.reduceLE, Nat.reduceAdd, Int.reduceToNat, Int.reduceAdd, Int.reduceNeg]
      exact ⟨1, by omega, M', rfl, by omega, .inr (.inl ⟨rfl, s1⟩)⟩
    · have q2 : IntKind.i64.wrap (((r0.length + r1.length : Nat) : Int) + 0) = (r0.length + r1.length : Nat) := by rw [wrap64 (by omega) (by omega)]; omega
      have q3 : r0.length + r1.length <= N := by omega
      have q4 : ((0 : Int) <= ((r0.length + r1.length : Nat) : Int)) = True := eq_true (by omega)
      simp (maxDischargeDepth := 12) only [decide_true, h1, h70, h71, h8, h72, h9, hb, lb, szOf, q2, q3, q4, Int.toNat_natCast, Nat.zero_add, Nat.le_refl, go_sem, Nat.reduceEqDiff, reduceIte, Int.reduceLT, Int.reduceLE, Nat.reduceAdd, Nat.reduceLT, Int.reduceToNat]
      refine z7H (ty := 5) (rows := M) (x2 _ (by (repeat' first | exact Keep.refl | apply Keep.app | apply Keep.set) <;> (intro hh; first | rfl | (exfalso; first | omega | (simp only [lla,lls,llc,lln] at hh; omega))))) (by simp (maxDischargeDepth := 12) only [go_sem]) c2 (by omega) (by omega) ?_
      obtain ⟨s1, s2⟩ := WS hT (by simp) (show r0.length + r1.length + r2.length <= M.length by omega)
      generalize splice M (r0.length + r1.length) r2 = M' at *
      simp (maxDischargeDepth := 12) only [decide_true, wi64, h1, h70, h71, h8, h72, h9, w3, go_sem, Nat.reduceEqDiff, reduceIte, Int.reduceLT, Int.reduceLE, Nat.reduceAdd, Int.reduceToNat, Int.reduceAdd, Int.reduceNeg]
      rw [hNe] at s1
      rw [hNe]
      exact ⟨0, by omega, M', rfl, by omega, .inr (.inr ⟨rfl, rfl, s1⟩)⟩
    · have hT' : M = r0 ++ r1 ++ r2 := by rw [<- hT, List.take_of_length_le (by omega)]
      simp (maxDischargeDepth := 12) only [decide_false, h71, h8, h72, go_sem, Nat.reduceEqDiff, reduceIte, Int.reduceLT]
      subst hT'
      rw [<- hML]
      exact ⟨rfl, rfl⟩

theorem Bts.keep {F:Nat->Prop} {L':List Blk} {x:IV} {rs:List (List IV)} (h:Bts L x rs) (hk:Keep F L L') (hn:∀b o n c,x=.sl b o n c->¬F b):Bts L' x rs:=by
 obtain ⟨⟨b,rfl,hb⟩ | rfl,hr,hN⟩:=h
 ·exact ⟨.inl ⟨b,rfl,hb.imp (fun h=>hk.get h (hn _ _ _ _ rfl)) (fun h=>hk.get h (hn _ _ _ _ rfl))⟩,hr,hN⟩
 ·exact ⟨.inr rfl,hr,hN⟩
theorem Bts.keep0 {L':List Blk} {x:IV} {rs:List (List IV)} (h:Bts L x rs) (hk:Keep none' L L'):Bts L' x rs:=h.keep hk fun _ _ _ _ _ h=>h
theorem Bts.len {x:IV} {rs:List (List IV)} (h:Bts L x rs):lenOf x=some rs.length:=by
 obtain ⟨⟨b,rfl,hb⟩ | rfl,hr,hN⟩:=h<;>rfl
theorem zx.rowsC {rs:List (List IV)} (h:zx rs):yj 1 rs:=fun r hr=>by
 obtain ⟨n,rfl⟩:=h r hr
 exact ⟨rfl,rfl⟩
theorem Bts.rows {x:IV} {rs:List (List IV)} (h:Bts L x rs):rowsOf L x=some rs:=by
 obtain ⟨⟨b,rfl,hb | hb⟩ | rfl,hr,hN⟩:=h
 ·simp [rowsOf,hb]
 ·simp [rowsOf,hb]
 ·simp [rowsOf]
theorem Bts.mk' {b:Nat} {rs:List (List IV)} (h:L[b]?=some (.cells 1 rs)\/L[b]?=some (.tcells 5 1 rs)) (hr:zx rs) (hN:rs.length<=70368744177664):Bts L (.sl b 0 rs.length rs.length) rs:=⟨.inl ⟨b,rfl,h⟩,hr,hN⟩
theorem Bts.cell {x:IV} {rs:List (List IV)} (h:Bts L x rs):cellsOf x=[x]:=by
 obtain ⟨⟨b,rfl,_⟩ | rfl,_⟩:=h<;>rfl
theorem zx.app {a b:List (List IV)} (h:zx a) (h':zx b):zx (a++b):=fun r hr=>(List.mem_append.1 hr).elim (h r) (h' r)
def z8I (L L':List Blk) (r:IV) (n:Nat):Prop:=∃g rows,r=.sl g 0 n n/\rows.length=n/\L.length<=g/\L'[g]?=some (.tcells 5 1 rows)/\zx rows
theorem yF {M:List Blk} {s n:Nat} {A:List (List IV)} (h:M[s]?=some (.cells 1 A)) (hn:A.length=n):rowsOf M (.sl s 0 n n)=some A:=by subst hn;simp [rowsOf,h]
theorem WY {M:List Blk} {s n ty:Nat} {A:List (List IV)} (h:M[s]?=some (.tcells ty 1 A)) (hn:A.length=n):rowsOf M (.sl s 0 n n)=some A:=by subst hn;simp [rowsOf,h]
theorem z8s (hP:E.P=Tryz.prog) (n:Int):XT E 327 [.int .u32 n] L fun r L'=>∃a b c d:Int,r=.sl L.length 0 4 4/\L'=L++[.cells 1 [[.int .u8 a],[.int .u8 b],[.int .u8 c],[.int .u8 d]]]:=by
 refine xt1 (fn:=Tryz.f327) (rs:=[.tmp 2]) (c:=q327) hP fun ρ h0=>?_
 unfold q327
 simp only [h0,go_sem,Nat.reduceEqDiff,reduceIte,Int.reduceLE]
 exact ⟨_,_,_,_,rfl⟩
theorem z5D (hP:E.P=Tryz.prog) {x:IV} {rs:List (List IV)} (hx:Bts L x rs) (hN:rs.length+8<=70368744177664):XT E 289 [x] L fun r L'=>z8I L L' r (rs.length+8)/\Keep none' L L':=by
 refine xt1 (fn:=Tryz.f289) (rs:=[.tmp 2]) (c:=q289) hP fun ρ h0=>?_
 unfold q289
 simp (maxDischargeDepth:=12) only [h0,zC hx.len,go_sem,Nat.reduceEqDiff,reduceIte]
 have cx:cellsOf x=[x]:=hx.cell
 refine zh (z8s (E:=E.noPan) hP _) ?_
 rintro r L1 ⟨a1,a2,a3,a4,rfl,rfl⟩
 simp (maxDischargeDepth:=12) only [h0,go_sem,Nat.reduceEqDiff,reduceIte]
 refine zh (zeF (E:=E.noPan) hP (hx.keep0 (by (repeat' first | exact Keep.refl | apply Keep.app | apply Keep.set)<;>(intro hh;first | rfl | (exfalso;first | omega | (simp only [lla,lls,llc,lln] at hh;omega)))))) ?_
 rintro r L1 ⟨⟨n,rfl⟩,rfl⟩
 simp (maxDischargeDepth:=12) only [go_sem,Nat.reduceEqDiff,reduceIte]
 refine zh (z8s (E:=E.noPan) hP _) ?_
 rintro r L1 ⟨b1,b2,b3,b4,rfl,rfl⟩
 simp (maxDischargeDepth:=12) only [h0,cx,go_sem,Nat.reduceEqDiff,reduceIte]
 have ha:zx [[.int .u8 a1],[.int .u8 a2],[.int .u8 a3],[.int .u8 a4]]:=by intro r hr;simp at hr;rcases hr with rfl | rfl | rfl | rfl<;>exact ⟨_,rfl⟩
 have hb:zx [[.int .u8 b1],[.int .u8 b2],[.int .u8 b3],[.int .u8 b4]]:=by intro r hr;simp at hr;rcases hr with rfl | rfl | rfl | rfl<;>exact ⟨_,rfl⟩
 obtain ⟨A,hA⟩:∃A:List (List IV),A=[[.int .u8 a1],[.int .u8 a2],[.int .u8 a3],[.int .u8 a4]]:=⟨_,rfl⟩
 obtain ⟨B,hB⟩:∃B:List (List IV),B=[[.int .u8 b1],[.int .u8 b2],[.int .u8 b3],[.int .u8 b4]]:=⟨_,rfl⟩
 have lA:A.length=4:=by rw [hA];rfl
 have lB:B.length=4:=by rw [hB];rfl
 rw [<-hA] at ha
 rw [<-hB] at hb
 rw [<-hA,<-hB]
 have hbr:zx rs:=hx.2.1
 refine zh (zas (E:=E.noPan) (p0:=.sl L.length 0 4 4) (p1:=.sl (L++[Blk.cells 1 A]).length 0 4 4) (p2:=x) (r0:=A) (r1:=B) (r2:=rs) hP (by simp (maxDischargeDepth:=12) only [go_sem]) (by rw [lA];rfl) (by rw [lB];rfl) hx.len (fun L' hk=>yF (hk.get (by simp (maxDischargeDepth:=12) only [go_sem]) fun h=>h) lA) (fun L' hk=>yF (hk.get (by simp (maxDischargeDepth:=12) only [go_sem]) fun h=>h) lB)
  (fun L' hk=>((hx.keep0 (by (repeat' first | exact Keep.refl | apply Keep.app | apply Keep.set)<;>(intro hh;first | rfl | (exfalso;first | omega | (simp only [lla,lls,llc,lln] at hh;omega))))).keep0 hk).rows) ha.rowsC hb.rowsC hbr.rowsC (by omega)) ?_
 rintro r L1 ⟨rfl,rfl⟩
 simp (maxDischargeDepth:=12) only [go_sem,Nat.reduceEqDiff,reduceIte]
 have hlen:(A++B++rs).length=rs.length+8:=by simp [lA,lB];omega
 rw [hlen]
 exact ⟨⟨_,_,rfl,hlen,by simp<;>omega,by simp (maxDischargeDepth:=12) only [go_sem],(ha.app hb).app hbr⟩,by (repeat' first | exact Keep.refl | apply Keep.app | apply Keep.set)<;>(intro hh;first | rfl | (exfalso;first | omega | (simp only [lla,lls,llc,lln] at hh;omega)))⟩
end
end Go.X.TryzW
end
section
open Go Go.X Go.Proofs
set_option maxRecDepth 100000
set_option maxHeartbeats 4000000
namespace Go.X.TryzW
def q288 : XC :=(sO [oV 4 .nsl] (sO [oM 9 0,oO 10 (.bslice 1 [(.int .u8 0)] 1 [(0,(.t 9))]),oM 5 10] (.seq (sO [oM 11 1,oY 12 11,oI 13 0] (.block 0 (.loop (sO [oB 14 .lss 13 12] (.seq (cT 14 .skip (.exit 0)) (.seq (.block 1 (sO [oO 15 (.idxS 1 (.t 11) (.t 13)),oL 16 15,oM 7 16] (sO [oI 8 56] (.block 2 (.loop (.seq (sO [oM 17 8,oK 18 .geq 17 0] (cT 18 .skip (.exit 2))) (.seq (.block 3 (.ops [oM 21 5,oM 22 7,oM 23 8,oB 24 .shr 22 23,oO 25 (.cvInt .u8 (.t 24)),oO 26 (.bslice 1 [(.int .u8 0)] 1 [(0,(.t 25))]),oO 27 (.ex (.appT 5 1) [.t 21,.t 26]),oM 5 27])) (.ops [oM 19 8,oK 20 .sub 19 8,oM 8 20])))))))) (.ops [oK 28 .add 13 1,oM 13 28]))))))) (sO [oM 29 5,oC 30 289 [.t 29],oM 4 30] .ret))))
def q225 : XC :=(sO [oV 4 .nsl] (sO [oM 5 0,oO 6 (.bslice 1 [(.int .i64 0)] 1 [(0,(.t 5))]),oC 7 288 [(.c (.int .u8 114)),.t 6],oM 8 1,oC 9 289 [.t 8],oO 10 (.ex (.appT 5 1) [.t 7,.t 9]),oM 4 10] .ret))
section
variable {E:Env} {ρ:Rho} {L:List Blk} {K:IV->List Blk->Prop}
def zen (L0 L:List Blk) (v:IV) (M:List (List IV)):Prop:=∃t,v=.sl t 0 M.length M.length/\L0.length<=t/\(L[t]?=some (.cells 1 M)\/L[t]?=some (.tcells 5 1 M))/\zx M
theorem z96 (hP:E.P=Tryz.prog) {k:Int} {b:Nat} {l:List (List IV)} (hb:L[b]?=some (.cells 1 l)) (hl:∀r∈l,∃v:Int,r=[.int .i64 v]) (hN:l.length<=100) :
  XT E 288 [.int .u8 k,.sl b 0 l.length l.length] L fun r L'=>z8I L L' r (8*l.length+9)/\Keep none' L L':=by
 have lb:=zg hb
 refine xt2 (fn:=Tryz.f288) (rs:=[.tmp 4]) (c:=q288) hP fun ρ h0 h1=>?_
 unfold q288
 simp only [h0,h1,go_sem,Nat.reduceEqDiff,reduceIte]
 refine zT (fun n ρ L1=>∃i:Nat,i<=l.length/\n=l.length - i/\Keep none' L L1/\ρ 11=.sl b 0 l.length l.length/\ρ 12=.int .i64 l.length/\ρ 13=.int .i64 i/\∃M,M.length=8*i+1/\zen L L1 (ρ 5) M)
  ⟨0,Nat.zero_le _,rfl,by (repeat' first | exact Keep.refl | apply Keep.app | apply Keep.set)<;>(intro hh;first | rfl | (exfalso;first | omega | (simp only [lla,lls,llc,lln] at hh;omega))),by simp only [go_sem,Nat.reduceEqDiff,reduceIte],by simp only [go_sem,Nat.reduceEqDiff,reduceIte],by simp only [go_sem,Nat.reduceEqDiff,reduceIte]<;>rfl,[[.int .u8 k]],rfl,L.length,by simp only [go_sem,Nat.reduceEqDiff,reduceIte]<;>rfl,Nat.le_refl _,.inl (by simp only [go_sem]),fun r hr=>by simp at hr;exact ⟨_,hr⟩⟩ ?_
 clear h0 h1 ρ
 rintro n ρ L1 ⟨i,hi,rfl,hk,h11,h12,h13,M,hM,t,h5,ht,hB,hR⟩
 have hb1:L1[b]?=some (.cells 1 l):=hk.get hb fun h=>h
 have lb1:=zg hb1
 by_cases hc:i<l.length
 ·have e1:((i:Int)<(l.length:Int))=True:=eq_true (by omega)
  have e0:((0:Int)<=(i:Int))=True:=eq_true (by omega)
  obtain ⟨v,hv⟩:=hl _ (List.getElem_mem hc)
  have hg:l[i]?=some [.int .i64 v]:=by rw [List.getElem?_eq_getElem hc,hv]
  have hgd:l.getD i []=[.int .i64 v]:=by rw [List.getD_eq_getElem?_getD,hg];rfl
  have hw:IntKind.i64.wrap ((i:Int)+1)=((i+1:Nat):Int):=by rw [wrap64 (by omega) (by omega)];rfl
  simp only [h11,h12,h13,e1,e0,hb1,hgd,hc,Int.toNat_natCast,go_sem,Nat.reduceEqDiff,reduceIte]
  refine zT (fun n' ρ L2=>∃j:Nat,j<=8/\n'=8 - j/\Keep none' L L2/\ρ 11=.sl b 0 l.length l.length/\ρ 12=.int .i64 l.length/\ρ 13=.int .i64 i/\ρ 7=.int .i64 v/\ρ 8=.int .i64 (56 - 8*(j:Int))/\∃M,M.length=8*i+1+j/\zen L L2 (ρ 5) M)
   ⟨0,Nat.zero_le _,rfl,hk,by simp only [h11,go_sem,Nat.reduceEqDiff,reduceIte],by simp only [h12,go_sem,Nat.reduceEqDiff,reduceIte],by simp only [h13,go_sem,Nat.reduceEqDiff,reduceIte],by simp only [go_sem,Nat.reduceEqDiff,reduceIte]<;>rfl,by simp only [go_sem,Nat.reduceEqDiff,reduceIte]<;>rfl,M,hM,t,by simp only [h5,go_sem,Nat.reduceEqDiff,reduceIte],ht,hB,hR⟩ ?_
  clear h5 h11 h12 h13 hk hB hb1 lb1 hR hM ht t M ρ
  rintro n' ρ L2 ⟨j,hj,rfl,hk,h11,h12,h13,h7,h8,M,hM,t,h5,ht,hB,hR⟩
  by_cases hj8:j<8
  ·have f1:((0:Int)<=56 - 8*(j:Int))=True:=eq_true (by omega)
   have fw:IntKind.i64.wrap (56 - 8*(j:Int) - 8)=56 - 8*((j+1:Nat):Int):=by rw [wrap64 (by omega) (by omega)];omega
   have tl:t<L2.length:=hB.elim zf zf
   simp only [h5,h7,h8,h11,h12,h13,f1,fw,go_sem,Nat.reduceEqDiff,reduceIte]
   generalize IntKind.u8.wrap (bshr IntKind.i64 v (56 - 8*(j:Int)))=c
   have hcr:zx [[IV.int .u8 c]]:=fun r hr=>by simp at hr;exact ⟨_,hr⟩
   refine ja (rows:=M) (rs:=[[.int .u8 c]]) rfl (hB.imp Zl Zl) rfl (yF (by simp only [go_sem]) rfl) hcr.rowsC (by simp) (by simp;omega) ?_
   intro kb hkb
   refine ⟨8 - (j+1),by omega,j+1,by omega,rfl,?_,rfl,M++[[.int .u8 c]],by simp;omega,(L2++[Blk.cells 1 [[.int .u8 c]]]).length,by simp,by have:=hk.1;simp;omega,?_,hR.app hcr⟩
   ·exact Keep.app (Keep.set (Keep.app hk) fun h=>absurd h (by omega))
   ·rcases hkb with rfl | rfl
    ·left;simp only [go_sem]
    ·right;simp only [go_sem]
  ·have f1:((0:Int)<=56 - 8*(j:Int))=False:=eq_false (by omega)
   simp only [h5,h8,h11,h12,h13,f1,hw,go_sem,Nat.reduceEqDiff,reduceIte]
   exact ⟨l.length - (i+1),by omega,i+1,by omega,rfl,hk,rfl,M,by omega,t,rfl,ht,hB,hR⟩
 ·have e1:((i:Int)<(l.length:Int))=False:=eq_false (by omega)
  simp only [h5,h12,h13,e1,go_sem,Nat.reduceEqDiff,reduceIte]
  refine zh (z5D (E:=E.noPan) hP (rs:=M) (.mk' hB hR (by omega)) (by omega)) ?_
  rintro r L2 ⟨⟨g,rows,rfl,hrl,hgl,hgb,hgr⟩,hk2⟩
  simp only [go_sem,Nat.reduceEqDiff,reduceIte]
  have hil:i=l.length:=by omega
  subst hil
  have hlen:M.length+8=8*l.length+9:=by omega
  rw [hlen] at hrl ⊢
  exact ⟨⟨g,rows,rfl,hrl,Nat.le_trans hk.1 hgl,hgb,hgr⟩,hk.trans hk2 fun _ _ h=>h⟩
theorem z2r (hP:E.P=Tryz.prog) {n:Int} {x:IV} {rs:List (List IV)} (hx:Bts L x rs) (hN:rs.length+100<=70368744177664):XT E 225 [.int .i64 n,x] L fun r L'=>z8I L L' r (rs.length+25)/\Keep none' L L':=by
 refine xt2 (fn:=Tryz.f225) (rs:=[.tmp 4]) (c:=q225) hP fun ρ h0 h1=>?_
 unfold q225
 simp only [h0,go_sem,Nat.reduceEqDiff,reduceIte]
 refine zh (z96 (E:=E.noPan) hP (l:=[[.int .i64 n]]) (by simp only [go_sem]) (by simp) (by simp)) ?_
 rintro r L1 ⟨⟨g,M,rfl,hML,hgl,hgb,hgr⟩,hk1⟩
 have hk0:Keep none' L L1:=Keep.trans (Keep.app Keep.refl) hk1 fun _ _ h=>h
 simp only [h1,go_sem,Nat.reduceEqDiff,reduceIte]
 refine zh (z5D (E:=E.noPan) hP (hx.keep0 hk0) (by omega)) ?_
 rintro r L2 ⟨⟨g',M',rfl,hML',hgl',hgb',hgr'⟩,hk2⟩
 have hgb2:=hk2.get hgb fun h=>h
 have hgL:=zf hgb
 simp only [go_sem,Nat.reduceEqDiff,reduceIte]
 refine WA (rows:=M) (rs:=M') rfl hgb2 hML (WY hgb' hML') hgr'.rowsC (fun h=>by subst h;simp at hML') (by rw [hML'];simp;omega) ?_
 have hlen:M.length+M'.length=rs.length+25:=by rw [hML,hML'];simp;omega
 have hlen':8*1+9+M'.length=rs.length+25:=by rw [hML'];omega
 rw [hlen']
 refine ⟨⟨L2.length,M++M',?_,by rw [lla];exact hlen,Nat.le_trans hk0.1 hk2.1,?_,hgr.app hgr'⟩,?_⟩
 ·rfl
 ·have e1:(L2.set g Blk.dead).length=L2.length:=lls
  simp only [e1,go_sem]
 ·refine Keep.app (Keep.set (hk0.trans hk2 fun _ _ h=>h) fun h=>absurd h ?_)
  have:=(by simpa using hgl:L.length+1<=g)
  omega
end
end Go.X.TryzW
end
section
open Go Go.X Go.Proofs
set_option maxRecDepth 100000
set_option maxHeartbeats 4000000
namespace Go.X.TryzW
def q369 : XC :=(sO [oI 4 0] (.seq (sO [oM 6 0,oY 7 6,oI 8 0] (.block 0 (.loop (sO [oB 9 .lss 8 7] (.seq (cT 9 .skip (.exit 0)) (.seq (.block 1 (sO [oM 10 8,oM 5 10] (sO [oM 11 1,oM 12 0,oM 13 5,oO 14 (.idxS 2 (.t 12) (.t 13)),oO 15 (.loadN 2 (.t 14)),oO 16 (.call (.t 11) [.t 15])] (cT 16 (sO [oM 17 5,oM 4 17] .ret) .skip)))) (.ops [oK 18 .add 8 1,oM 8 18]))))))) (sO [oO 4 (.mov (.c (.int .i64 (-1))))] .ret)))
def q354 : XC :=(sO [oV 4 .nsl] (sO [oM 8 0,oM 9 1,oC 10 369 [.t 8,.t 9],oM 5 10] (.seq (sO [oM 11 5,oO 12 (.bin .eql (.t 11) (.c (.int .i64 (-1))))] (cT 12 (sO [oM 13 0,oM 4 13] .ret) .skip)) (.seq (sO [oM 14 5,oK 15 .add 14 1,oM 6 15] (.block 0 (.loop (.seq (sO [oM 16 6,oM 17 0,oY 18 17,oB 19 .lss 16 18] (cT 19 .skip (.exit 0))) (.seq (.block 1 (sO [oM 22 0,oM 23 6,oO 24 (.idxS 2 (.t 22) (.t 23)),oO 25 (.loadN 2 (.t 24)),oO 7 (.alloc [(.int .i64 0),(.int .i64 0)]),oU (.store 2 (.t 7) (.t 25))] (sO [oM 26 1,oO 27 (.loadN 2 (.t 7)),oO 28 (.call (.t 26) [.t 27]),oO 29 (.un .not (.t 28))] (cT 29 (sO [oM 30 0,oM 31 5,oO 32 (.loadN 2 (.t 7)),oO 33 (.idxS 2 (.t 30) (.t 31)),oU (.store 2 (.t 33) (.t 32))] (.ops [oM 34 5,oK 35 .add 34 1,oM 5 35])) .skip)))) (.ops [oM 20 6,oK 21 .add 20 1,oM 6 21])))))) (.seq .bad (sO [oM 39 0,oM 40 5,oO 41 (.slice 2 (.t 39) none (some (.t 40))),oM 4 41] .ret))))))
def q328 : XC :=(sO [oO 4 (.alloc [(.int .i64 0)]),oI 5 0] (sO [oM 8 0,oN 9 8,oF 10 1 9,oL 11 10,oO 6 (.alloc [(.int .i64 0)]),oS 6 11] (sO [oM 12 0,oN 13 12,oF 14 1 13,oL 15 14,oK 16 .add 15 1,oN 17 12,oF 18 1 17,oS 18 16] (sO [oO 7 (.alloc [(.bool false)]),oU (.store 1 (.t 7) (.c (.bool false)))] (sO [oM 19 0,oM 20 0,oN 21 20,oF 22 2 21,oL 23 22,oO 24 (.mkfn (.func 355) [] [.t 6,.t 7,.t 4]),oC 25 354 [.t 23,.t 24],oN 26 19,oF 27 2 26,oS 27 25] (.seq (.block 0 (.seq (.draw [oM 29 0,oN 30 29,oF 31 3 30,oL 32 31,oM 33 32,oG 34 33 true (.load1 (.t 6)),oG 35 33 true (.mov (.t 0)),oG 36 33 true (.nilck (.t 35)),oG 37 33 true (.fldA 4 (.t 36)),oG 38 33 true (.load1 (.t 37)),oG 39 33 true (.bin .geq (.t 34) (.t 38)),oO 40 (.pick (.t 33) (.t 39) (.c (.bool false))),oM 28 40]) (cT 28 (sO [oU (.store 1 (.t 4) (oi 0)),oI 5 4] .ret) (sO [oL 42 7,oM 41 42] (cT 41 (sO [oL 43 4,oS 4 43,oI 5 3] .ret) (sO [oM 45 1,oK 46 .lss 45 0,oM 44 46] (cT 44 (sO [oU (.store 1 (.t 4) (oi 0)),oI 5 1] .ret) .skip))))))) (sO [oU (.store 1 (.t 4) (oi 0)),oI 5 0] .ret)))))))
def q353 : XC :=(.seq (sO [oM 6 2,oY 7 6,oK 8 .eql 7 0] (cT 8 .ret .skip)) (.seq (sO [oM 9 0,oN 10 9,oF 11 0 10,oL 12 11,oM 13 1,oO 14 (.ex (.mlook false (.raw (.pointer none)) false) [.t 12,.t 13]),oO 15 (.ex (.eqP false) [.t 14,oz])] (cT 15 (.ops [oM 16 0,oN 17 16,oF 18 0 17,oL 19 18,oM 20 1,oO 21 (.build [.nsl,(.int .i64 0)] []),oO 22 (.box (.t 21)),oU (.ex (.mset false) [.t 19,.t 20,.t 22])]) .skip)) (.drawR [(oM 23 0,([],false)),(oN 24 23,([],false)),(oF 25 0 24,([],false)),(oL 26 25,([],true)),(oM 27 1,([],false)),(oO 28 (.ex (.mlook false (.raw (.pointer none)) false) [.t 26,.t 27]),([],true)),(oM 29 0,([],false)),(oN 30 29,([],false)),(oF 31 0 30,([],false)),(oL 32 31,([],false)),(oM 33 1,([],false)),(oO 34 (.ex (.mlook false (.raw (.pointer none)) false) [.t 32,.t 33]),([],false)),(oN 35 34,([],false)),(oF 36 0 35,([],false)),(oL 37 36,([],false)),(oM 38 2,([],false)),(oO 39 (.ex (.appT 5 1) [.t 37,.t 38]),([3,5],false)),(oN 40 28,([],false)),(oF 41 0 40,([],false)),(oS 41 39,([],false))])))
def q323 : XC :=(sO [oI 6 0] (sO [oM 10 0,oM 11 1,oC 12 328 [.t 10,.t 11],oM 9 12,oX 13 0 9,oX 14 1 9,oM 7 13,oM 8 14] (.seq (.block 0 (sO [oM 16 8,oK 17 .eql 16 0,oM 15 17] (cT 15 (.ops [oM 18 0,oM 19 1,oM 20 2,oC 21 353 [.t 18,.t 19,.t 20]]) (sO [oM 23 8,oK 24 .eql 23 3,oM 25 24,oG 26 25 true (.mov (.t 7)),oG 27 25 true (.bin .eql (.t 26) (oi 2)),oO 28 (.pick (.t 25) (.t 27) (.c (.bool false))),oM 29 28,oG 30 29 true (.mov (.t 1)),oG 31 29 true (.bin .geq (.t 30) (oi 0)),oO 32 (.pick (.t 29) (.t 31) (.c (.bool false))),oM 22 32] (cT 22 (.ops [oM 33 0,oM 34 1,oM 35 2,oM 36 2,oY 37 36,oK 38 .quo 37 2,oO 39 (.slice 1 (.t 35) none (some (.t 38))),oC 40 353 [.t 33,.t 34,.t 39]]) .skip))))) (sO [oM 41 8,oM 6 41] .ret))))
def q324 : XC :=(sO [oI 4 0] (sO [oM 9 0,oM 10 1,oC 11 328 [.t 9,.t 10],oM 8 11,oX 12 0 8,oX 13 1 8,oM 5 12,oM 6 13] (.seq (sO [oM 14 0,oN 15 14,oF 16 0 15,oL 17 16,oM 18 1,oO 19 (.ex (.mlook false (.raw (.pointer none)) false) [.t 17,.t 18]),oM 7 19] (sO [oM 20 6,oK 21 .eql 20 0,oM 22 21,oG 23 22 true (.mov (.t 7)),oG 24 22 true (.ex (.eqP true) [.t 23,oz]),oO 25 (.pick (.t 22) (.t 24) (.c (.bool false)))] (cT 25 (.ops [oM 26 7,oM 27 7,oN 28 27,oF 29 0 28,oL 30 29,oY 31 30,oN 32 26,oF 33 1 32,oS 33 31]) .skip))) (sO [oM 34 6,oM 4 34] .ret))))
section
variable {E:Env} {ρ:Rho} {L:List Blk} {K:IV->List Blk->Prop}
theorem z3k (hP:E.P=Tryz.prog) (g:IV):XT E 369 [.nsl,g] L fun r L'=>r=.int .i64 (-1)/\L'=L:=by
 refine xt2 (fn:=Tryz.f369) (rs:=[.tmp 4]) (c:=q369) hP fun ρ h0 h1=>?_
 unfold q369
 simp only [h0,go_sem,Nat.reduceEqDiff,reduceIte]
 refine ZV ?_
 simp only [go_sem,Nat.reduceEqDiff,reduceIte,Int.reduceLT,Int.reduceNeg]
theorem z2w (hP:E.P=Tryz.prog) (g:IV):XT E 354 [.nsl,g] L fun r L'=>r=.nsl/\L'=L:=by
 refine xt2 (fn:=Tryz.f354) (rs:=[.tmp 4]) (c:=q354) hP fun ρ h0 h1=>?_
 unfold q354
 simp only [h0,h1,go_sem,Nat.reduceEqDiff,reduceIte]
 refine zh (z3k (E:=E.noPan) hP g) ?_
 rintro r L' ⟨rfl,rfl⟩
 simp only [h0,go_sem,Nat.reduceEqDiff,reduceIte,Int.reduceNeg]
def dskB (m:Nat) (o st:Int):Blk:=.cells 5 [[.mp m,.int .i64 o,.nsl,.bool false,.int .i64 st]]
theorem zaY (hP:E.P=Tryz.prog) {d m:Nat} {o st:Int} (hD:L[d]?=some (dskB m o st)):XT E 328 [.ptr d 0 0,.int .i64 0] L fun r L'=>
  r=.tup [.int .i64 0,.int .i64 0]/\(∃o',L'[d]?=some (dskB m o' st))/\Keep (fun t=>t=d) L L':=by
 refine xt2 (fn:=Tryz.f328) (rs:=[.cell1 4,.tmp 5]) (c:=q328) hP fun ρ h0 h1=>?_
 unfold q328
 unfold dskB at hD
 have ld:=zg hD
 simp (maxDischargeDepth:=12) only [h0,hD,ld,go_sem,Nat.reduceEqDiff,reduceIte,Nat.reduceAdd,Nat.reduceLT,Nat.reduceLeDiff]
 refine zh (z2w (E:=E.noPan) hP _) ?_
 rintro r L' ⟨rfl,rfl⟩
 simp (maxDischargeDepth:=12) only [h0,h1,ld,Y4,Yt,jE,ZO,go_sem,Nat.reduceEqDiff,reduceIte,Int.reduceLT,Nat.reduceAdd,Nat.reduceLT,Nat.reduceLeDiff]
 refine ⟨rfl,rfl,⟨_,rfl⟩,?_⟩
 (repeat' first | exact Keep.refl | apply Keep.app | apply Keep.set)<;>(intro hh;first | rfl | (exfalso;first | omega | (simp only [lla,llc,lln] at hh;omega)))
def ZL (L:List Blk) (d:Nat) (F:Nat->Prop) (N:Nat):Prop:=∃m o st,L[d]?=some (dskB m o st)/\
 ((L[m]?=some (.map [] 0)/\F=fun t=>t=d\/t=m)\/
  ∃f b kp rows,L[m]?=some (.map [(.int .i64 0,.ptr f 0 0,0)] 1)/\L[f]?=some (.cells 2 [[.sl b 0 rows.length rows.length,.int .i64 kp]])/\L[b]?=some (.tcells 5 1 rows)/\rows.length<=N/\
   F=fun t=>t=d\/t=m\/t=f\/t=b)
theorem zdT (hP:E.P=Tryz.prog) {d:Nat} {F:Nat->Prop} {N:Nat} {x:IV} {rs:List (List IV)} (hD:ZL L d F N) (hl:lenOf x=some rs.length) (hx:∀L',Keep F L L'->rowsOf L' x=some rs) (hr:yj 1 rs) (hne:rs≠[]) (hN:N+rs.length<=70368744177664) :
  XT E 353 [.ptr d 0 0,.int .i64 0,x] L fun r L'=>r=.tup []/\(∃F',ZL L' d F' (N+rs.length)/\Grown F F' L L')/\Keep F L L':=by
 have hl0:((rs.length:Int)=0)=False:=eq_false (by have:=List.length_pos_iff.2 hne;omega)
 obtain ⟨m,o,st,h5,hD⟩:=hD
 unfold dskB at h5
 have ld:=zg h5
 refine xt3 (fn:=Tryz.f353) (rs:=[]) (c:=q353) hP fun ρ h0 h1 h2=>?_
 unfold q353
 rcases hD with ⟨hm,rfl⟩ | ⟨f,b,kp,rows,hm,hf,hb,hn,rfl⟩
 ·have lm:=zg hm
  have n1:=zo h5 hm (by simp)
  have n2:=zo hm h5 (by simp)
  simp (maxDischargeDepth:=12) only [h0,h1,h2,h5,hm,zC hl,hl0,ld,lm,n2,go_sem,Nat.reduceEqDiff,reduceIte,Nat.reduceAdd]
  refine z2T (by simp only [lls]) (hx _ (by (repeat' first | exact Keep.refl | apply Keep.app | apply Keep.set)<;>(intro hh;first | rfl | exact .inl rfl | exact .inr rfl | exact .inr (.inl rfl) | exact .inr (.inr rfl) | exact .inr (.inr (.inl rfl)) | exact .inr (.inr (.inr rfl)) | (exfalso;first | omega | (simp only [lla,lls,llc,lln] at hh;omega))))) hr hne (by omega) ?_
  simp (maxDischargeDepth:=12) only [hl0,ld,lm,ne_eq,ninP,sepL,go_sem,reduceIte,Nat.reduceAdd,Nat.reduceLeDiff]
  refine ⟨⟨_,⟨m,o,st,?_,.inr ⟨L.length,(L++[Blk.cells 2 [[IV.nsl,IV.int IntKind.i64 0]]]).length,0,rs,?_,?_,?_,by omega,rfl⟩⟩,?_⟩,?_⟩
  ·simp (maxDischargeDepth:=12) only [h5,ld,n2,dskB,go_sem]
  ·simp (maxDischargeDepth:=12) only [lm,go_sem]
  ·simp (maxDischargeDepth:=12) only [go_sem]
  ·simp (maxDischargeDepth:=12) only [go_sem]
  ·intro t ht
   simp only [lla,lls,llc,lln] at ht ⊢
   omega
  ·(repeat' first | exact Keep.refl | apply Keep.app | apply Keep.set)<;>(intro hh;first | rfl | exact .inl rfl | exact .inr rfl | exact .inr (.inl rfl) | exact .inr (.inr rfl) | exact .inr (.inr (.inl rfl)) | exact .inr (.inr (.inr rfl)) | (exfalso;first | omega | (simp only [lla,lls,llc,lln] at hh;omega)))
 ·have lm:=zg hm
  have lf:=zg hf
  have lb:=zg hb
  have n1:=zo h5 hm (by simp)
  have n2:=zo hm h5 (by simp)
  have n3:=zo h5 hf (by simp)
  have n4:=zo hf h5 (by simp)
  have n5:=zo h5 hb (by simp)
  have n6:=zo hb h5 (by simp)
  have n7:=zo hm hf (by simp)
  have n8:=zo hf hm (by simp)
  have n9:=zo hm hb (by simp)
  have n10:=zo hb hm (by simp)
  have n11:=zo hf hb (by simp)
  have n12:=zo hb hf (by simp)
  simp (maxDischargeDepth:=12) only [h0,h1,h2,h5,hm,hf,zC hl,hl0,n6,n10,go_sem,Nat.reduceEqDiff,reduceIte,Nat.reduceAdd]
  refine WA rfl hb rfl (hx _ Keep.refl) hr hne (by omega) ?_
  simp (maxDischargeDepth:=12) only [hf,hl0,ne_eq,ninP,sepL,ld,lm,lf,n12,go_sem,reduceIte,Nat.reduceAdd,Nat.reduceLeDiff]
  refine ⟨⟨_,⟨m,o,st,?_,.inr ⟨f,(L.set b .dead).length,kp,rows++rs,?_,?_,?_,?_,rfl⟩⟩,?_⟩,?_⟩
  ·simp (maxDischargeDepth:=12) only [h5,dskB,ld,n4,n6,go_sem]
  ·simp (maxDischargeDepth:=12) only [hm,lm,n8,n10,go_sem]
  ·simp (maxDischargeDepth:=12) only [lla,lf,go_sem]
  ·simp (maxDischargeDepth:=12) only [lf,go_sem]
  ·rw [lla];omega
  ·intro t ht
   simp only [lla,lls,llc,lln] at ht ⊢
   omega
  ·(repeat' first | exact Keep.refl | apply Keep.app | apply Keep.set)<;>(intro hh;first | rfl | exact .inl rfl | exact .inr rfl | exact .inr (.inl rfl) | exact .inr (.inr rfl) | exact .inr (.inr (.inl rfl)) | exact .inr (.inr (.inr rfl)) | (exfalso;first | omega | (simp only [lla,lls,llc,lln] at hh;omega)))
theorem ZL.lt {d:Nat} {F:Nat->Prop} {N:Nat} (h:ZL L d F N):d<L.length/\F d/\∀t,F t->t<L.length:=by
 obtain ⟨m,o,st,h5,⟨hm,rfl⟩ | ⟨f,b,kp,rows,hm,hf,hb,hn,rfl⟩⟩:=h
 ·refine ⟨zf h5,.inl rfl,?_⟩
  rintro t (rfl | rfl)
  ·exact zf h5
  ·exact zf hm
 ·refine ⟨zf h5,.inl rfl,?_⟩
  rintro t (rfl | rfl | rfl | rfl)
  ·exact zf h5
  ·exact zf hm
  ·exact zf hf
  ·exact zf hb
theorem ZL.keep {d:Nat} {F G:Nat->Prop} {N:Nat} {L':List Blk} (h:ZL L d F N) (hk:Keep G L L') (hn:∀t,F t->¬G t):ZL L' d F N:=by
 obtain ⟨m,o,st,h5,⟨hm,rfl⟩ | ⟨f,b,kp,rows,hm,hf,hb,hr,rfl⟩⟩:=h
 ·exact ⟨m,o,st,hk.get h5 (hn _ (.inl rfl)),.inl ⟨hk.get hm (hn _ (.inr rfl)),rfl⟩⟩
 ·exact ⟨m,o,st,hk.get h5 (hn _ (.inl rfl)),.inr ⟨f,b,kp,rows,hk.get hm (hn _ (.inr (.inl rfl))),hk.get hf (hn _ (.inr (.inr (.inl rfl)))),hk.get hb (hn _ (.inr (.inr (.inr rfl)))),hr,rfl⟩⟩
theorem z0I (hP:E.P=Tryz.prog) {d:Nat} {F:Nat->Prop} {N:Nat} (hD:ZL L d F N):XT E 328 [.ptr d 0 0,.int .i64 0] L fun r L'=>
  r=.tup [.int .i64 0,.int .i64 0]/\ZL L' d F N/\Keep F L L':=by
 have hlt:=hD.lt
 obtain ⟨m,o,st,h5,hD⟩:=hD
 refine (zaY hP h5).mono ?_
 rintro r L' ⟨rfl,⟨o',h5'⟩,hk⟩
 refine ⟨rfl,⟨m,o',st,h5',?_⟩,hk.mono (fun t _ h=>by subst h;exact hlt.2.1)⟩
 unfold dskB at h5
 rcases hD with ⟨hm,rfl⟩ | ⟨f,b,kp,rows,hm,hf,hb,hn,rfl⟩
 ·exact .inl ⟨hk.get hm (of_eq_false (zo hm h5 (by simp))),rfl⟩
 ·exact .inr ⟨f,b,kp,rows,hk.get hm (of_eq_false (zo hm h5 (by simp))),hk.get hf (of_eq_false (zo hf h5 (by simp))),hk.get hb (of_eq_false (zo hb h5 (by simp))),hn,rfl⟩
theorem z7U (hP:E.P=Tryz.prog) {d:Nat} {F:Nat->Prop} {N:Nat} {x:IV} {rs:List (List IV)} (hD:ZL L d F N) (hl:lenOf x=some rs.length) (hx:∀L',Keep F L L'->rowsOf L' x=some rs) (hr:yj 1 rs) (hne:rs≠[]) (hN:N+rs.length<=70368744177664) :
  XT E 323 [.ptr d 0 0,.int .i64 0,x] L fun r L'=>r=.int .i64 0/\(∃F',ZL L' d F' (N+rs.length)/\Grown F F' L L')/\Keep F L L':=by
 refine xt3 (fn:=Tryz.f323) (rs:=[.tmp 6]) (c:=q323) hP fun ρ h0 h1 h2=>?_
 unfold q323
 simp only [h0,h1,go_sem,Nat.reduceEqDiff,reduceIte]
 refine zh (z0I (E:=E.noPan) hP hD) ?_
 rintro r L1 ⟨rfl,hD1,hk1⟩
 simp only [h0,h1,h2,go_sem,Nat.reduceEqDiff,reduceIte,Nat.reduceAdd,Nat.reduceLT]
 refine zh (zdT (E:=E.noPan) hP hD1 hl (fun L' h=>hx L' (hk1.trans h fun _ _ h=>h)) hr hne hN) ?_
 rintro r L2 ⟨rfl,⟨F',hD2,hg⟩,hk2⟩
 simp only [go_sem,Nat.reduceEqDiff,reduceIte]
 exact ⟨⟨F',hD2,Grown.trans (Grown.refl (L':=L1)) hg hk1.1 hk2.1⟩,hk1.trans hk2 fun _ _ h=>h⟩
theorem zcA (hP:E.P=Tryz.prog) {d:Nat} {F:Nat->Prop} {N:Nat} (hD:ZL L d F N) :
  XT E 324 [.ptr d 0 0,.int .i64 0] L fun r L'=>r=.int .i64 0/\ZL L' d F N/\Keep F L L':=by
 refine xt2 (fn:=Tryz.f324) (rs:=[.tmp 4]) (c:=q324) hP fun ρ h0 h1=>?_
 unfold q324
 simp only [h0,h1,go_sem,Nat.reduceEqDiff,reduceIte]
 refine zh (z0I (E:=E.noPan) hP hD) ?_
 rintro r L1 ⟨rfl,hD1,hk1⟩
 have hDD:=hD1
 obtain ⟨m,o,st,h5,hD1⟩:=hD1
 unfold dskB at h5
 have ld:=zg h5
 rcases hD1 with ⟨hm,rfl⟩ | ⟨f,b,kp,rows,hm,hf,hb,hn,rfl⟩
 ·simp only [h0,h1,h5,hm,go_sem,Nat.reduceEqDiff,reduceIte,Nat.reduceAdd,Nat.reduceLT]
  exact ⟨hDD,hk1⟩
 ·have lf:=zg hf
  simp only [h0,h1,h5,hm,hf,go_sem,Nat.reduceEqDiff,reduceIte,Nat.reduceAdd,Nat.reduceLT]
  have n3:=zo hf h5 (by simp)
  have n8:=zo hf hm (by simp)
  have n12:=zo hf hb (by simp)
  refine ⟨⟨m,o,st,?_,.inr ⟨f,b,(rows.length:Int),rows,?_,?_,?_,hn,rfl⟩⟩,hk1.trans (F':=fun t=>t=f) ?_ ?_⟩
  ·simp only [h5,dskB,n3,go_sem]
  ·simp only [hm,n8,go_sem]
  ·simp only [lf,go_sem]
  ·simp only [hb,n12,go_sem]
  ·(repeat' first | exact Keep.refl | apply Keep.app | apply Keep.set)<;>(intro hh;first | rfl | exact .inl rfl | exact .inr rfl | exact .inr (.inl rfl) | exact .inr (.inr rfl) | exact .inr (.inr (.inl rfl)) | exact .inr (.inr (.inr rfl)) | (exfalso;first | omega | (simp only [lla,lls,llc,lln] at hh;omega)))
  ·rintro t _ rfl
   exact .inr (.inr (.inl rfl))
end
end Go.X.TryzW
end
section
open Go Go.X Go.Proofs
set_option maxRecDepth 100000
set_option maxHeartbeats 4000000
namespace Go.X.TryzW
def q18 : XC :=(sO [oO 0 (.mov oz)] (sO [oO 1 (.ex .mmake []),oO 2 (.build [(.raw (.map none)),(.int .i64 0),.nsl,(.bool false),(.int .i64 0)] [(0,(1,(.t 1)))]),oO 3 (.box (.t 2)),oM 0 3] .ret))
def q135 : XC :=(sO [oV 2 .nsl] (sO [oM 3 0,oN 4 3,oF 5 0 4,oL 6 5,oC 7 198 [.t 6],oC 8 197 [.t 7],oM 2 8] .ret))
def q190 : XC :=(sO [oI 2 0] (.seq (.cond (.c (.bool false)) (sO [oM 3 0,oO 4 (.cvInt .u32 (.t 3)),oC 5 255 [.t 4],oM 2 5] .ret) .skip) (sO [oM 6 0,oC 7 256 [.t 6],oM 2 7] .ret)))
def q197 : XC :=(sO [oV 2 .nsl] (sO [oM 4 0,oC 5 259 [.t 4],oM 3 5] (sO [oM 6 3,oC 7 260 [.t 6]] (sO [oM 8 3,oM 2 8] .ret))))
def q198 : XC :=(sO [oO 1 (.box (.t 0)),oV 2 (.raw .nilFunc)] (sO [oO 3 (.mkfn (.func 261) [] [.t 1]),oM 2 3] .ret))
def q256 : XC :=(sO [oI 2 0] (.seq (sO [oM 3 0,oO 4 (.bin .geq (.t 3) (.c (.int .u64 4294967296)))] (cT 4 (sO [oM 5 0,oO 6 (.bin .shr (.t 5) (.c (.int .u64 32))),oM 0 6] (.ops [oI 2 32])) .skip)) (.seq (sO [oM 7 0,oO 8 (.bin .geq (.t 7) (.c (.int .u64 65536)))] (cT 8 (sO [oM 9 0,oO 10 (.bin .shr (.t 9) (.c (.int .u64 16))),oM 0 10] (.ops [oM 11 2,oK 12 .add 11 16,oM 2 12])) .skip)) (.seq (sO [oM 13 0,oO 14 (.bin .geq (.t 13) (.c (.int .u64 256)))] (cT 14 (sO [oM 15 0,oO 16 (.bin .shr (.t 15) (.c (.int .u64 8))),oM 0 16] (.ops [oM 17 2,oK 18 .add 17 8,oM 2 18])) .skip)) (sO [oM 19 2,oM 20 0,oO 21 (.cvInt .u8 (.t 20)),oO 22 (.idx (.c (.str [0,1,2,2,3,3,3,3,4,4,4,4,4,4,4,4,5,5,5,5,5,5,5,5,5,5,5,5,5,5,5,5,6,6,6,6,6,6,6,6,6,6,6,6,6,6,6,6,6,6,6,6,6,6,6,6,6,6,6,6,6,6,6,6,7,7,7,7,7,7,7,7,7,7,7,7,7,7,7,7,7,7,7,7,7,7,7,7,7,7,7,7,7,7,7,7,7,7,7,7,7,7,7,7,7,7,7,7,7,7,7,7,7,7,7,7,7,7,7,7,7,7,7,7,7,7,7,7,8,8,8,8,8,8,8,8,8,8,8,8,8,8,8,8,8,8,8,8,8,8,8,8,8,8,8,8,8,8,8,8,8,8,8,8,8,8,8,8,8,8,8,8,8,8,8,8,8,8,8,8,8,8,8,8,8,8,8,8,8,8,8,8,8,8,8,8,8,8,8,8,8,8,8,8,8,8,8,8,8,8,8,8,8,8,8,8,8,8,8,8,8,8,8,8,8,8,8,8,8,8,8,8,8,8,8,8,8,8,8,8,8,8,8,8,8,8,8,8,8,8,8,8,8,8,8,8])) (.t 21)),oO 23 (.cvInt .i64 (.t 22)),oB 24 .add 19 23,oM 2 24] .ret)))))
def q259 : XC :=(sO [oV 2 .nsl] (sO [oM 3 0,oC 4 307 [(.c .nsl),.t 3],oM 2 4] .ret))
def q260 : XC :=(sO [oM 3 0,oY 4 3,oM 2 4] (.ops [oM 5 0,oM 6 2,oM 7 2,oO 8 (.cvInt .u64 (.t 7)),oC 9 190 [.t 8],oC 10 308 [.t 5,(oi 0),.t 6,.t 9]]))
def q261 : XC :=(sO [oL 4 1,oO 5 (.ex .mrng [.t 4])] (.block 0 (.loop (sO [oO 6 (.ex .mnxt [.t 5]),oX 7 0 6] (.seq (cT 7 .skip (.exit 0)) (.block 1 (.seq .bad (sO [oM 10 0,oM 11 3,oO 12 (.call (.t 10) [.t 11]),oO 13 (.un .not (.t 12))] (cT 13 .ret .skip)))))))))
def q307 : XC :=(sO [oO 2 (.box (.t 0)),oV 4 .nsl] (.seq (sO [oM 6 1] (.block 0 (.rngF (.t 6) 13 [7] (.ops [oM 5 7]) (.block 1 (.ops [oL 8 2,oM 9 5,oO 10 (.bslice 1 [(.int .i64 0)] 1 [(0,(.t 9))]),oO 11 (.append 1 8 (.t 8) (.t 10)),oS 2 11]))))) (sO [oL 12 2,oM 4 12] .ret)))
def q308 : XC :=(sO [oV 8 (.bool true)] (sO [oV 9 (.bool true)] (.block 0 (.loop (.block 1 (sO [oM 19 2,oM 20 1,oB 21 .sub 19 20,oM 10 21] (.seq (sO [oM 22 10,oK 23 .leq 22 12] (cT 23 (sO [oM 24 0,oM 25 1,oM 26 2,oC 27 340 [.t 24,.t 25,.t 26]] .ret) .skip)) (.seq (sO [oM 28 3,oK 29 .eql 28 0] (cT 29 (sO [oM 30 0,oM 31 1,oM 32 2,oC 33 341 [.t 30,.t 31,.t 32]] .ret) .skip)) (.seq (sO [oM 34 8,oO 35 (.un .not (.t 34))] (cT 35 (sO [oM 36 0,oM 37 1,oM 38 2,oC 39 342 [.t 36,.t 37,.t 38]] (.ops [oM 40 3,oK 41 .sub 40 1,oM 3 41])) .skip)) (sO [oM 43 0,oM 44 1,oM 45 2,oC 46 343 [.t 43,.t 44,.t 45],oM 42 46,oX 47 0 42,oX 48 1 42,oM 11 47,oM 12 48] (.seq (sO [oM 49 12,oK 50 .eql 49 2] (cT 50 (sO [oM 51 0,oM 52 1,oM 53 2,oC 54 344 [.t 51,.t 52,.t 53]] (sO [oM 55 2,oK 56 .sub 55 1,oM 57 11,oM 58 1,oB 59 .sub 57 58,oB 60 .sub 56 59,oM 11 60] (.ops [oI 12 1]))) .skip)) (.seq (sO [oM 61 8,oM 62 61,oG 63 62 true (.mov (.t 9)),oO 64 (.pick (.t 62) (.t 63) (.c (.bool false))),oM 65 64,oG 66 65 true (.mov (.t 12)),oG 67 65 true (.bin .eql (.t 66) (oi 1)),oO 68 (.pick (.t 65) (.t 67) (.c (.bool false)))] (cT 68 (sO [oM 69 0,oM 70 1,oM 71 2,oC 72 345 [.t 69,.t 70,.t 71]] (cT 72 .ret .skip)) .skip)) (.seq (.seq (.drawE [oM 73 1,oK 74 .gtr 73 0,oM 75 74,oG 76 75 true (.mov (.t 0)),oG 77 75 true (.mov (.t 1)),oG 78 75 true (.bin .sub (.t 77) (oi 1)),oG 79 75 true (.idxS 1 (.t 76) (.t 78)),oG 80 75 true (.load1 (.t 79)),oG 81 75 true (.mov (.t 0)),oG 82 75 true (.mov (.t 11)),oG 83 75 true (.idxS 1 (.t 81) (.t 82)),oG 84 75 true (.load1 (.t 83)),oG 85 75 true (.pcall (.f 346) [.t 80,.t 84]),oG 86 75 true (.un .not (.t 85)),oO 87 (.pick (.t 75) (.t 86) (.c (.bool false)))]) (cT 87 (sO [oM 88 0,oM 89 1,oM 90 2,oM 91 11,oC 92 347 [.t 88,.t 89,.t 90,.t 91],oM 13 92] (sO [oM 93 13,oM 1 93] (.exit 1))) .skip)) (sO [oM 95 0,oM 96 1,oM 97 2,oM 98 11,oC 99 348 [.t 95,.t 96,.t 97,.t 98],oM 94 99,oX 100 0 94,oX 101 1 94,oM 14 100,oM 15 101] (sO [oM 102 15,oM 9 102] (sO [oM 103 14,oM 104 1,oB 105 .sub 103 104,oM 106 2,oM 107 14,oB 108 .sub 106 107,oM 16 105,oM 17 108] (sO [oM 109 10,oK 110 .quo 109 8,oM 18 110] (sO [oM 111 16,oM 112 17,oB 113 .lss 111 112] (cT 113 (sO [oM 114 16,oM 115 18,oB 116 .geq 114 115,oM 8 116] (sO [oM 117 0,oM 118 1,oM 119 14,oM 120 3,oC 121 308 [.t 117,.t 118,.t 119,.t 120]] (.ops [oM 122 14,oK 123 .add 122 1,oM 1 123]))) (sO [oM 124 17,oM 125 18,oB 126 .geq 124 125,oM 8 126] (sO [oM 127 0,oM 128 14,oK 129 .add 128 1,oM 130 2,oM 131 3,oC 132 308 [.t 127,.t 129,.t 130,.t 131]] (.ops [oM 133 14,oM 2 133]))))))))))))))))))))))
def q340 : XC :=(sO [oM 8 1,oK 9 .add 8 1,oM 6 9] (.block 0 (.loop (.seq (sO [oM 10 6,oM 11 2,oB 12 .lss 10 11] (cT 12 .skip (.exit 0))) (.seq (.block 1 (sO [oM 15 6,oM 7 15] (.block 2 (.loop (.seq (.seq (.drawE [oM 16 7,oM 17 1,oB 18 .gtr 16 17,oM 19 18,oG 20 19 true (.mov (.t 0)),oG 21 19 true (.mov (.t 7)),oG 22 19 true (.idxS 1 (.t 20) (.t 21)),oG 23 19 true (.load1 (.t 22)),oG 24 19 true (.mov (.t 0)),oG 25 19 true (.mov (.t 7)),oG 26 19 true (.bin .sub (.t 25) (oi 1)),oG 27 19 true (.idxS 1 (.t 24) (.t 26)),oG 28 19 true (.load1 (.t 27)),oG 29 19 true (.pcall (.f 346) [.t 23,.t 28]),oO 30 (.pick (.t 19) (.t 29) (.c (.bool false)))]) (cT 30 .skip (.exit 2))) (.seq (.block 3 (.drawE [oM 33 0,oM 34 7,oM 35 0,oM 36 7,oK 37 .sub 36 1,oM 38 0,oM 39 7,oK 40 .sub 39 1,oO 41 (.idxS 1 (.t 38) (.t 40)),oL 42 41,oM 43 0,oM 44 7,oO 45 (.idxS 1 (.t 43) (.t 44)),oL 46 45,oO 47 (.idxS 1 (.t 33) (.t 34)),oS 47 42,oO 48 (.idxS 1 (.t 35) (.t 37)),oS 48 46])) (.ops [oM 31 7,oK 32 .sub 31 1,oM 7 32]))))))) (.ops [oM 13 6,oK 14 .add 13 1,oM 6 14]))))))
section
variable {E:Env} {ρ:Rho} {L:List Blk} {K:IV->List Blk->Prop}
theorem z0W (hP:E.P=Tryz.prog):XT E 18 [] L fun r L'=>∃d m,r=.ptr d 0 0/\L'=L++[.map [] 0,dskB m 0 0]/\m=L.length/\d=L.length+1:=by
 refine xtA (fn:=Tryz.f18) (rs:=[.tmp 0]) (c:=q18) hP rfl (by kernel_rfl) (by decide) (Nat.le_of_ble_eq_true rfl) fun ρ e=>?_
 clear e
 unfold q18
 simp only [go_sem,Nat.reduceEqDiff,reduceIte,Nat.reduceAdd,Nat.reduceLeDiff]
 exact ⟨_,_,rfl,by simp only [List.append_assoc,go_sem];rfl,rfl,by simp⟩
theorem zci (hP:E.P=Tryz.prog):XT E 256 [.int .u64 0] L fun r L'=>r=.int .i64 0/\L'=L:=by
 refine xt1 (fn:=Tryz.f256) (rs:=[.tmp 2]) (c:=q256) hP fun ρ h0=>?_
 unfold q256
 simp only [wu8,h0,go_sem,Nat.reduceEqDiff,reduceIte,Int.reduceLT,Int.reduceLE,Nat.reduceAdd,Int.reduceToNat]
 rfl
theorem zbc (hP:E.P=Tryz.prog):XT E 190 [.int .u64 0] L fun r L'=>r=.int .i64 0/\L'=L:=by
 refine xt1 (fn:=Tryz.f190) (rs:=[.tmp 2]) (c:=q190) hP fun ρ h0=>?_
 unfold q190
 simp only [h0,go_sem,Nat.reduceEqDiff,reduceIte]
 refine zh (zci (E:=E.noPan) hP) ?_
 rintro r L' ⟨rfl,rfl⟩
 simp only [go_sem,Nat.reduceEqDiff,reduceIte]
theorem z6s (hP:E.P=Tryz.prog):XT E 340 [.nsl,.int .i64 0,.int .i64 0] L fun r L'=>r=.tup []/\L'=L:=by
 refine xt3 (fn:=Tryz.f340) (rs:=[]) (c:=q340) hP fun ρ h0 h1 h2=>?_
 unfold q340
 simp only [wi64,h1,go_sem,Nat.reduceEqDiff,reduceIte,Int.reduceLE,Int.reduceAdd,Int.reduceNeg]
 refine ZV ?_
 simp only [h2,go_sem,Nat.reduceEqDiff,reduceIte,Int.reduceLT]
theorem zcq (hP:E.P=Tryz.prog):XT E 308 [.nsl,.int .i64 0,.int .i64 0,.int .i64 0] L fun r L'=>r=.tup []/\L'=L:=by
 refine xt4 (fn:=Tryz.f308) (rs:=[]) (c:=q308) hP fun ρ h0 h1 h2 h3=>?_
 unfold q308
 simp only [go_sem]
 refine ZV ?_
 simp only [wi64,h0,h1,h2,go_sem,Nat.reduceEqDiff,reduceIte,Int.reduceLE,Int.reduceSub,Int.reduceNeg]
 refine zh (z6s (E:=E.noPan) hP) ?_
 rintro r L' ⟨rfl,rfl⟩
 simp only [wi64,go_sem,Int.reduceLE,Int.reduceSub,Int.reduceNeg]
theorem zax (hP:E.P=Tryz.prog):XT E 260 [.nsl] L fun r L'=>r=.tup []/\L'=L:=by
 refine xt1 (fn:=Tryz.f260) (rs:=[]) (c:=q260) hP fun ρ h0=>?_
 unfold q260
 simp only [wu64,h0,go_sem,Nat.reduceEqDiff,reduceIte,Int.reduceLE]
 refine zh (zbc (E:=E.noPan) hP) ?_
 rintro r L' ⟨rfl,rfl⟩
 simp only [wu64,go_sem,Nat.reduceEqDiff,reduceIte,Int.reduceLE]
 refine zh (zcq (E:=E.noPan) hP) ?_
 rintro r L' ⟨rfl,rfl⟩
 simp only [wu64,go_sem,Int.reduceLE]
theorem zbN (hP:E.P=Tryz.prog) {s b m c:Nat} (hb:L[b]?=some (.cells 1 [[.mp m]])) (hm:L[m]?=some (.map [] c)):XT E 261 [.yld s,.ptr b 0 0] L fun r L'=>r=.tup []/\Keep none' L L':=by
 have lb:=zg hb
 have lm:=zg hm
 refine xt2 (fn:=Tryz.f261) (rs:=[]) (c:=q261) hP fun ρ h0 h1=>?_
 unfold q261
 simp only [h1,hb,hm,go_sem,reduceIte]
 refine ZV ?_
 simp only [hm,lm,go_sem,Nat.reduceEqDiff,reduceIte]
 (repeat' first | exact Keep.refl | apply Keep.app | apply Keep.set)<;>(intro hh;first | rfl | (exfalso;first | omega | (simp only [lla,lls,llc,lln] at hh;omega)))
theorem z1Z (hP:E.P=Tryz.prog) {b m c:Nat} (hb:L[b]?=some (.cells 1 [[.mp m]])) (hm:L[m]?=some (.map [] c)):XT E 307 [.nsl,.fn (.func 261) [] [.ptr b 0 0]] L fun r L'=>r=.nsl/\Keep none' L L':=by
 have lb:=zg hb
 have lm:=zg hm
 refine xt2 (fn:=Tryz.f307) (rs:=[.tmp 4]) (c:=q307) hP fun ρ h0 h1=>?_
 unfold q307
 simp only [h0,h1,go_sem,Nat.reduceEqDiff,reduceIte]
 refine z4Z (gf:=261) (caps:=[.ptr b 0 0]) (by simp only [go_sem,Nat.reduceEqDiff,reduceIte]) ?_
 intro r0 a1 a2 a3
 refine (zbN (hP) (b:=b) (m:=m) (c:=c) ?_ ?_).mono ?_
 ·simp only [hb,lb,go_sem]
 ·simp only [hm,lm,go_sem]
 ·rintro r L' ⟨rfl,hk⟩
  refine ⟨r0,hk.get (by simp only [go_sem]) (fun h=>h),by rw [a1];decide,?_⟩
  rw [a2]
  have e1:L'[L.length]?=some (.cells 1 [[.nsl]]):=hk.get (by simp only [go_sem]) (fun h=>h)
  have e2:=zg e1
  have e3:=hk.1
  have e4:((L++[Blk.cells 1 [[IV.nsl]]]).length=L.length)=False:=eq_false (by simp)
  simp only [e1,e4,go_sem,Nat.reduceEqDiff,reduceIte]
  refine Keep.set (Keep.trans (Keep.app (Keep.app Keep.refl)) hk fun _ _ h=>h) (fun h=>?_)
  rw [lla] at h;simp at h;omega
theorem zaT (hP:E.P=Tryz.prog) {m:Nat}:XT E 198 [.mp m] L fun r L'=>r=.fn (.func 261) [] [.ptr L.length 0 0]/\L'=L++[.cells 1 [[.mp m]]]:=by
 refine xt1 (fn:=Tryz.f198) (rs:=[.tmp 2]) (c:=q198) hP fun ρ h0=>?_
 unfold q198
 simp only [h0,go_sem,Nat.reduceEqDiff,reduceIte]
theorem z3Y (hP:E.P=Tryz.prog) {b m c:Nat} (hb:L[b]?=some (.cells 1 [[.mp m]])) (hm:L[m]?=some (.map [] c)):XT E 259 [.fn (.func 261) [] [.ptr b 0 0]] L fun r L'=>r=.nsl/\Keep none' L L':=by
 refine xt1 (fn:=Tryz.f259) (rs:=[.tmp 2]) (c:=q259) hP fun ρ h0=>?_
 unfold q259
 simp only [h0,go_sem,Nat.reduceEqDiff,reduceIte]
 refine zh (z1Z (E:=E.noPan) hP hb hm) ?_
 rintro r L' ⟨rfl,hk⟩
 simp only [go_sem,Nat.reduceEqDiff,reduceIte]
 exact hk
theorem z7c (hP:E.P=Tryz.prog) {b m c:Nat} (hb:L[b]?=some (.cells 1 [[.mp m]])) (hm:L[m]?=some (.map [] c)):XT E 197 [.fn (.func 261) [] [.ptr b 0 0]] L fun r L'=>r=.nsl/\Keep none' L L':=by
 refine xt1 (fn:=Tryz.f197) (rs:=[.tmp 2]) (c:=q197) hP fun ρ h0=>?_
 unfold q197
 simp only [h0,go_sem,Nat.reduceEqDiff,reduceIte]
 refine zh (z3Y (E:=E.noPan) hP hb hm) ?_
 rintro r L' ⟨rfl,hk⟩
 simp only [go_sem,Nat.reduceEqDiff,reduceIte]
 refine zh (zax (E:=E.noPan) hP) ?_
 rintro r L' ⟨rfl,rfl⟩
 simp only [go_sem,Nat.reduceEqDiff,reduceIte]
 exact hk
theorem z3j (hP:E.P=Tryz.prog) {d m:Nat} {o st:Int} (hD:L[d]?=some (dskB m o st)) (hm:L[m]?=some (.map [] 0)):XT E 135 [.ptr d 0 0] L fun r L'=>r=.nsl/\Keep none' L L':=by
 unfold dskB at hD
 have ld:=zg hD
 have lm:=zg hm
 refine xt1 (fn:=Tryz.f135) (rs:=[.tmp 2]) (c:=q135) hP fun ρ h0=>?_
 unfold q135
 simp (maxDischargeDepth:=12) only [h0,hD,go_sem,Nat.reduceEqDiff,reduceIte,Nat.reduceAdd]
 refine zh (zaT (E:=E.noPan) hP) ?_
 rintro r L' ⟨rfl,rfl⟩
 simp (maxDischargeDepth:=12) only [go_sem,Nat.reduceEqDiff,reduceIte]
 refine zh (z7c (E:=E.noPan) hP (m:=m) (c:=0) (by simp (maxDischargeDepth:=12) only [go_sem]) (by simp (maxDischargeDepth:=12) only [lm,hm,go_sem])) ?_
 rintro r L' ⟨rfl,hk⟩
 simp (maxDischargeDepth:=12) only [go_sem,Nat.reduceEqDiff,reduceIte]
 exact Keep.trans (Keep.app Keep.refl) hk fun _ _ h=>h
end
end Go.X.TryzW
end
section
open Go Go.X Go.Proofs
set_option maxRecDepth 100000
set_option maxHeartbeats 4000000
namespace Go.X.TryzW
def q285 : XC :=(sO [oI 6 0] (.seq (sO [oM 8 0,oN 9 8,oF 10 0 9,oL 11 10,oM 12 1,oM 13 2,oC 14 323 [.t 11,.t 12,.t 13],oM 7 14] (sO [oM 15 7,oK 16 .neq 15 0] (cT 16 (sO [oM 17 7,oM 6 17] .ret) .skip))) (sO [oM 18 0,oN 19 18,oF 20 0 19,oL 21 20,oM 22 1,oC 23 324 [.t 21,.t 22],oM 6 23] .ret)))
def q206 : XC :=(sO [oI 2 0] (.seq (.draw [oM 3 0,oN 4 3,oF 5 3 4,oL 6 5,oM 7 0,oN 8 7,oF 9 4 8,oL 10 9,oY 11 10,oB 12 .add 6 11,oM 2 12]) .ret))
section
variable {E:Env} {ρ:Rho} {L:List Blk} {K:IV->List Blk->Prop}
theorem zbp (hP:E.P=Tryz.prog) {lg d:Nat} {F:Nat->Prop} {N:Nat} {c1 c2 c3 c4 c5 c6 x:IV} {rs:List (List IV)} (hlg:L[lg]?=some (.cells 7 [[.ptr d 0 0,c1,c2,c3,c4,c5,c6]])) (hF:¬F lg) (hD:ZL L d F N)
  (hx:Bts L x rs) (hxF:∀b o n c,x=.sl b o n c->¬F b) (hne:rs≠[]) (hN:N+rs.length<=70368744177664) :
  XT E 285 [.ptr lg 0 0,.int .i64 0,x] L fun r L'=>r=.int .i64 0/\(∃F',ZL L' d F' (N+rs.length)/\Grown F F' L L')/\Keep F L L':=by
 have ll:=zg hlg
 have hbr:zx rs:=hx.2.1
 refine xt3 (fn:=Tryz.f285) (rs:=[.tmp 6]) (c:=q285) hP fun ρ h0 h1 h2=>?_
 unfold q285
 simp (maxDischargeDepth:=12) only [h0,h1,h2,hlg,go_sem,Nat.reduceEqDiff,reduceIte,Nat.reduceAdd]
 refine zh (z7U (E:=E.noPan) hP hD hx.len (fun L' hk=>(hx.keep hk hxF).rows) hbr.rowsC hne hN) ?_
 rintro r L1 ⟨rfl,⟨F1,hD1,hg1⟩,hk1⟩
 have hlg1:=hk1.get hlg hF
 have ll1:=zg hlg1
 simp (maxDischargeDepth:=12) only [h0,h1,hlg1,go_sem,Nat.reduceEqDiff,reduceIte,Nat.reduceAdd]
 refine zh (zcA (E:=E.noPan) hP hD1) ?_
 rintro r L2 ⟨rfl,hD2,hk2⟩
 simp (maxDischargeDepth:=12) only [go_sem,Nat.reduceEqDiff,reduceIte]
 refine ⟨⟨F1,hD2,fun t ht=>?_⟩,hk1.trans hk2 fun t htl ht=>?_⟩
 ·rcases hg1 t ht with h | ⟨h,h'⟩
  ·exact .inl h
  ·exact .inr ⟨h,Nat.lt_of_lt_of_le h' hk2.1⟩
 ·rcases hg1 t ht with h | ⟨h,_⟩
  ·exact h
  ·omega
theorem z4F (hP:E.P=Tryz.prog) {lg k:Nat} {f:Int} {c0 c1 c2 c4 c5 c6:IV} (hlg:L[lg]?=some (.cells 7 [[c0,c1,c2,.int .i64 f,c4,c5,c6]])) (h4:lenOf c4=some k) :
  XT E 206 [.ptr lg 0 0] L fun r L'=>r=.int .i64 (IntKind.i64.wrap (f+k))/\L'=L:=by
 have ll:=zg hlg
 refine xt1 (fn:=Tryz.f206) (rs:=[.tmp 2]) (c:=q206) hP fun ρ h0=>?_
 unfold q206
 simp only [h0,hlg,zC h4,go_sem,Nat.reduceEqDiff,reduceIte,Nat.reduceAdd,Nat.reduceLT]
 rfl
end
end Go.X.TryzW
end
section
open Go Go.X Go.Proofs
set_option maxRecDepth 100000
set_option maxHeartbeats 4000000
namespace Go.X.TryzW
def q73 : XC :=(sO [oO 4 (.mov oz),oI 5 0] (.seq (sO [oM 14 0,oO 15 (.ex (.eqP false) [.t 14,oz]),oM 16 15,oG 17 16 false (.mov (.t 1)),oG 18 16 false (.bin .lss (.t 17) (oi 0)),oO 19 (.pick (.t 16) (.c (.bool true)) (.t 18)),oM 20 19,oG 21 20 false (.mov (.t 1)),oG 22 20 false (.bin .geq (.t 21) (oi 16)),oO 23 (.pick (.t 20) (.c (.bool true)) (.t 22))] (cT 23 (sO [oO 4 (.mov oz),oI 5 1] .ret) .skip)) (sO [oM 24 0,oM 25 1,oK 26 .mul 25 1048576,oO 27 (.build [(.raw (.pointer none)),(.int .i64 0),.nsl,(.int .i64 0),.nsl,(.bool false),(.bool false)] [(0,(1,(.t 24))),(1,(1,(.t 26)))]),oO 28 (.box (.t 27)),oM 6 28] (.seq (sO [oM 29 0,oC 30 135 [.t 29],oY 31 30,oI 32 0] (.block 0 (.loop (sO [oB 33 .lss 32 31] (.seq (cT 33 .skip (.exit 0)) (.seq (.block 1 (sO [oO 34 (.idxS 1 (.t 30) (.t 32)),oL 35 34,oM 8 35] (.seq (sO [oM 36 8,oM 37 6,oN 38 37,oF 39 1 38,oL 40 39,oB 41 .lss 36 40,oM 42 41,oG 43 42 false (.mov (.t 8)),oG 44 42 false (.mov (.t 6)),oG 45 42 false (.nilck (.t 44)),oG 46 42 false (.fldA 1 (.t 45)),oG 47 42 false (.load1 (.t 46)),oG 48 42 false (.bin .add (.t 47) (oi 1048576)),oG 49 42 false (.bin .geq (.t 43) (.t 48)),oO 50 (.pick (.t 42) (.c (.bool true)) (.t 49))] (cT 50 (.exit 1) .skip)) (sO [oM 52 6,oM 53 8,oC 54 136 [.t 52,.t 53],oM 51 54,oX 55 0 51,oX 56 1 51,oO 9 (.alloc [(.int .i64 0),(.int .i64 0),(.int .i64 0),(.int .i64 0),(.bool false),(.int .i64 0),(.int .i64 0),(.int .i64 0)]),oU (.store 8 (.t 9) (.t 55)),oM 10 56] (.seq (sO [oM 57 10,oO 58 (.un .not (.t 57))] (cT 58 (sO [oM 59 6,oN 60 59,oF 61 6 60,oU (.store 1 (.t 61) (.c (.bool true)))] (.exit 1)) .skip)) (.drawR [(oM 62 6,([],false)),(oM 63 6,([],false)),(oN 64 63,([],false)),(oF 65 2 64,([],false)),(oL 66 65,([],true)),(oO 67 (.loadN 8 (.t 9)),([],false)),(oO 68 (.bslice 8 [(.int .i64 0),(.int .i64 0),(.int .i64 0),(.int .i64 0),(.bool false),(.int .i64 0),(.int .i64 0),(.int .i64 0)] 1 [(0,(.t 67))]),([4],false)),(oO 69 (.append 8 64 (.t 66) (.t 68)),([],false)),(oN 70 62,([],false)),(oF 71 2 70,([],false)),(oS 71 69,([],false))])))))) (.ops [oK 72 .add 32 1,oM 32 72]))))))) (sO [oM 73 6,oN 74 73,oF 75 2 74,oL 76 75,oC 77 137 [.t 76,(.f 138)]] (.seq (sO [oM 78 6,oN 79 78,oF 80 2 79,oL 81 80,oY 82 81,oI 83 0] (.block 2 (.loop (sO [oB 84 .lss 83 82] (.seq (cT 84 .skip (.exit 2)) (.seq (.block 3 (sO [oM 85 83,oM 11 85] (sO [oI 12 1099511627776] (.seq (sO [oM 86 11,oK 87 .add 86 1,oM 88 6,oN 89 88,oF 90 2 89,oL 91 90,oY 92 91,oB 93 .lss 87 92] (cT 93 (.ops [oM 94 6,oN 95 94,oF 96 2 95,oL 97 96,oM 98 11,oK 99 .add 98 1,oO 100 (.idxS 8 (.t 97) (.t 99)),oF 101 0 100,oF 102 1 101,oL 103 102,oM 12 103]) .skip)) (.ops [oM 104 6,oM 105 6,oN 106 105,oF 107 2 106,oL 108 107,oM 109 11,oO 110 (.idxS 8 (.t 108) (.t 109)),oM 111 12,oC 112 140 [.t 104,.t 110,.t 111]]))))) (.ops [oK 113 .add 83 1,oM 83 113]))))))) (.seq (sO [oM 114 6,oN 115 114,oF 116 2 115,oL 117 116,oY 118 117,oK 119 .gtr 118 0] (cT 119 (.seq (.drawE [oM 120 6,oN 121 120,oF 122 2 121,oL 123 122,oM 124 6,oN 125 124,oF 126 2 125,oL 127 126,oY 128 127,oK 129 .sub 128 1,oO 130 (.idxS 8 (.t 123) (.t 129)),oO 131 (.loadN 8 (.t 130)),oO 13 (.alloc [(.int .i64 0),(.int .i64 0),(.int .i64 0),(.int .i64 0),(.bool false),(.int .i64 0),(.int .i64 0),(.int .i64 0)]),oU (.store 8 (.t 13) (.t 131))]) (.drawE [oM 132 6,oM 133 6,oN 134 133,oF 135 6 134,oL 136 135,oM 137 136,oG 138 137 false (.fldA 6 (.t 13)),oG 139 137 false (.load1 (.t 138)),oG 140 137 false (.mov (.t 0)),oG 141 137 false (.fldA 5 (.t 13)),oG 142 137 false (.load1 (.t 141)),oG 143 137 false (.pcall (.f 141) [.t 140,.t 142]),oG 144 137 false (.len (.t 143)),oG 145 137 false (.bin .neq (.t 139) (.t 144)),oO 146 (.pick (.t 137) (.c (.bool true)) (.t 145)),oN 147 132,oF 148 6 147,oS 148 146])) .skip)) (sO [oM 149 6,oM 4 149,oI 5 0] .ret))))))))
def q137 : XC :=(sO [oM 5 0,oY 6 5,oM 4 6] (.ops [oM 7 0,oM 8 4,oM 9 4,oO 10 (.cvInt .u64 (.t 9)),oC 11 190 [.t 10],oM 12 1,oC 13 203 [.t 7,(oi 0),.t 8,.t 11,.t 12]]))
def q203 : XC :=(sO [oV 10 (.bool true)] (sO [oV 11 (.bool true)] (.block 0 (.loop (.block 1 (sO [oM 21 2,oM 22 1,oB 23 .sub 21 22,oM 12 23] (.seq (sO [oM 24 12,oK 25 .leq 24 12] (cT 25 (sO [oM 26 0,oM 27 1,oM 28 2,oM 29 4,oC 30 264 [.t 26,.t 27,.t 28,.t 29]] .ret) .skip)) (.seq (sO [oM 31 3,oK 32 .eql 31 0] (cT 32 (sO [oM 33 0,oM 34 1,oM 35 2,oM 36 4,oC 37 265 [.t 33,.t 34,.t 35,.t 36]] .ret) .skip)) (.seq (sO [oM 38 10,oO 39 (.un .not (.t 38))] (cT 39 (sO [oM 40 0,oM 41 1,oM 42 2,oM 43 4,oC 44 266 [.t 40,.t 41,.t 42,.t 43]] (.ops [oM 45 3,oK 46 .sub 45 1,oM 3 46])) .skip)) (sO [oM 48 0,oM 49 1,oM 50 2,oM 51 4,oC 52 267 [.t 48,.t 49,.t 50,.t 51],oM 47 52,oX 53 0 47,oX 54 1 47,oM 13 53,oM 14 54] (.seq (sO [oM 55 14,oK 56 .eql 55 2] (cT 56 (sO [oM 57 0,oM 58 1,oM 59 2,oM 60 4,oC 61 268 [.t 57,.t 58,.t 59,.t 60]] (sO [oM 62 2,oK 63 .sub 62 1,oM 64 13,oM 65 1,oB 66 .sub 64 65,oB 67 .sub 63 66,oM 13 67] (.ops [oI 14 1]))) .skip)) (.seq (sO [oM 68 10,oM 69 68,oG 70 69 true (.mov (.t 11)),oO 71 (.pick (.t 69) (.t 70) (.c (.bool false))),oM 72 71,oG 73 72 true (.mov (.t 14)),oG 74 72 true (.bin .eql (.t 73) (oi 1)),oO 75 (.pick (.t 72) (.t 74) (.c (.bool false)))] (cT 75 (sO [oM 76 0,oM 77 1,oM 78 2,oM 79 4,oC 80 269 [.t 76,.t 77,.t 78,.t 79]] (cT 80 .ret .skip)) .skip)) (.seq (.seq (.drawE [oM 81 1,oK 82 .gtr 81 0,oM 83 82,oG 84 83 true (.mov (.t 4)),oG 85 83 true (.mov (.t 0)),oG 86 83 true (.mov (.t 1)),oG 87 83 true (.bin .sub (.t 86) (oi 1)),oG 88 83 true (.idxS 8 (.t 85) (.t 87)),oG 89 83 true (.loadN 8 (.t 88)),oG 90 83 true (.mov (.t 0)),oG 91 83 true (.mov (.t 13)),oG 92 83 true (.idxS 8 (.t 90) (.t 91)),oG 93 83 true (.loadN 8 (.t 92)),oG 94 83 true (.pcall (.t 84) [.t 89,.t 93]),oG 95 83 true (.bin .lss (.t 94) (oi 0)),oG 96 83 true (.un .not (.t 95)),oO 97 (.pick (.t 83) (.t 96) (.c (.bool false)))]) (cT 97 (sO [oM 98 0,oM 99 1,oM 100 2,oM 101 13,oM 102 4,oC 103 270 [.t 98,.t 99,.t 100,.t 101,.t 102],oM 15 103] (sO [oM 104 15,oM 1 104] (.exit 1))) .skip)) (sO [oM 106 0,oM 107 1,oM 108 2,oM 109 13,oM 110 4,oC 111 271 [.t 106,.t 107,.t 108,.t 109,.t 110],oM 105 111,oX 112 0 105,oX 113 1 105,oM 16 112,oM 17 113] (sO [oM 114 17,oM 11 114] (sO [oM 115 16,oM 116 1,oB 117 .sub 115 116,oM 118 2,oM 119 16,oB 120 .sub 118 119,oM 18 117,oM 19 120] (sO [oM 121 12,oK 122 .quo 121 8,oM 20 122] (sO [oM 123 18,oM 124 19,oB 125 .lss 123 124] (cT 125 (sO [oM 126 18,oM 127 20,oB 128 .geq 126 127,oM 10 128] (sO [oM 129 0,oM 130 1,oM 131 16,oM 132 3,oM 133 4,oC 134 203 [.t 129,.t 130,.t 131,.t 132,.t 133]] (.ops [oM 135 16,oK 136 .add 135 1,oM 1 136]))) (sO [oM 137 19,oM 138 20,oB 139 .geq 137 138,oM 10 139] (sO [oM 140 0,oM 141 16,oK 142 .add 141 1,oM 143 2,oM 144 3,oM 145 4,oC 146 203 [.t 140,.t 142,.t 143,.t 144,.t 145]] (.ops [oM 147 16,oM 2 147]))))))))))))))))))))))
def q264 : XC :=(sO [oM 10 1,oK 11 .add 10 1,oM 8 11] (.block 0 (.loop (.seq (sO [oM 12 8,oM 13 2,oB 14 .lss 12 13] (cT 14 .skip (.exit 0))) (.seq (.block 1 (sO [oM 17 8,oM 9 17] (.block 2 (.loop (.seq (.seq (.drawE [oM 18 9,oM 19 1,oB 20 .gtr 18 19,oM 21 20,oG 22 21 true (.mov (.t 3)),oG 23 21 true (.mov (.t 0)),oG 24 21 true (.mov (.t 9)),oG 25 21 true (.idxS 8 (.t 23) (.t 24)),oG 26 21 true (.loadN 8 (.t 25)),oG 27 21 true (.mov (.t 0)),oG 28 21 true (.mov (.t 9)),oG 29 21 true (.bin .sub (.t 28) (oi 1)),oG 30 21 true (.idxS 8 (.t 27) (.t 29)),oG 31 21 true (.loadN 8 (.t 30)),oG 32 21 true (.pcall (.t 22) [.t 26,.t 31]),oG 33 21 true (.bin .lss (.t 32) (oi 0)),oO 34 (.pick (.t 21) (.t 33) (.c (.bool false)))]) (cT 34 .skip (.exit 2))) (.seq (.block 3 (.drawE [oM 37 0,oM 38 9,oM 39 0,oM 40 9,oK 41 .sub 40 1,oM 42 0,oM 43 9,oK 44 .sub 43 1,oO 45 (.idxS 8 (.t 42) (.t 44)),oO 46 (.loadN 8 (.t 45)),oM 47 0,oM 48 9,oO 49 (.idxS 8 (.t 47) (.t 48)),oO 50 (.loadN 8 (.t 49)),oO 51 (.idxS 8 (.t 37) (.t 38)),oU (.store 8 (.t 51) (.t 46)),oO 52 (.idxS 8 (.t 39) (.t 41)),oU (.store 8 (.t 52) (.t 50))])) (.ops [oM 35 9,oK 36 .sub 35 1,oM 9 36]))))))) (.ops [oM 15 8,oK 16 .add 15 1,oM 8 16]))))))
section
variable {E:Env} {ρ:Rho} {L:List Blk} {K:IV->List Blk->Prop}
theorem z4t (hP:E.P=Tryz.prog) {g:IV}:XT E 264 [.nsl,.int .i64 0,.int .i64 0,g] L fun r L'=>r=.tup []/\L'=L:=by
 refine xt4 (fn:=Tryz.f264) (rs:=[]) (c:=q264) hP fun ρ h0 h1 h2 h3=>?_
 unfold q264
 simp only [wi64,h1,go_sem,Nat.reduceEqDiff,reduceIte,Int.reduceLE,Int.reduceAdd,Int.reduceNeg]
 refine ZV ?_
 simp only [h2,go_sem,Nat.reduceEqDiff,reduceIte,Int.reduceLT]
theorem za7 (hP:E.P=Tryz.prog) {g:IV}:XT E 203 [.nsl,.int .i64 0,.int .i64 0,.int .i64 0,g] L fun r L'=>r=.tup []/\L'=L:=by
 refine xt5 (fn:=Tryz.f203) (rs:=[]) (c:=q203) hP fun ρ h0 h1 h2 h3 h4=>?_
 unfold q203
 simp only [go_sem]
 refine ZV ?_
 simp only [wi64,h0,h1,h2,h4,go_sem,Nat.reduceEqDiff,reduceIte,Int.reduceLE,Int.reduceSub,Int.reduceNeg]
 refine zh (z4t (E:=E.noPan) hP) ?_
 rintro r L' ⟨rfl,rfl⟩
 simp only [wi64,go_sem,Int.reduceLE,Int.reduceSub,Int.reduceNeg]
theorem z9g (hP:E.P=Tryz.prog) {g:IV}:XT E 137 [.nsl,g] L fun r L'=>r=.tup []/\L'=L:=by
 refine xt2 (fn:=Tryz.f137) (rs:=[]) (c:=q137) hP fun ρ h0 h1=>?_
 unfold q137
 simp only [wu64,h0,go_sem,Nat.reduceEqDiff,reduceIte,Int.reduceLE]
 refine zh (zbc (E:=E.noPan) hP) ?_
 rintro r L' ⟨rfl,rfl⟩
 simp only [wu64,h1,go_sem,Nat.reduceEqDiff,reduceIte,Int.reduceLE]
 refine zh (za7 (E:=E.noPan) hP) ?_
 rintro r L' ⟨rfl,rfl⟩
 simp only [wu64,go_sem,Int.reduceLE]
theorem zco (hP:E.P=Tryz.prog) {d m:Nat} {o st:Int} (hD:L[d]?=some (dskB m o st)) (hm:L[m]?=some (.map [] 0)):XT E 73 [.ptr d 0 0,.int .i64 0] L fun r L'=>
  ∃lg,r=.tup [.ptr lg 0 0,.int .i64 0]/\lg=L.length/\L'[lg]?=some (.cells 7 [[.ptr d 0 0,.int .i64 0,.nsl,.int .i64 0,.nsl,.bool false,.bool false]])/\Keep none' L L':=by
 have ld:=zg hD
 have lm:=zg hm
 have hDu:=hD
 unfold dskB at hD
 refine xt2 (fn:=Tryz.f73) (rs:=[.tmp 4,.tmp 5]) (c:=q73) hP fun ρ h0 h1=>?_
 unfold q73
 simp only [h0,h1,go_sem,Nat.reduceEqDiff,reduceIte,Int.reduceLT,Int.reduceLE,Nat.reduceAdd,Nat.reduceLeDiff]
 refine zh (z3j (E:=E.noPan) hP (d:=d) (m:=m) (o:=o) (st:=st) (by simp only [ld,hDu,go_sem]) (by simp only [lm,hm,go_sem])) ?_
 rintro r L' ⟨rfl,hk⟩
 have hl:=hk.get (t:=L.length) (k:=.cells 7 [[.ptr d 0 0,.int .i64 0,.nsl,.int .i64 0,.nsl,.bool false,.bool false]]) (by simp only [go_sem]<;>rfl) (fun h=>h)
 have ll:=zg hl
 simp only [go_sem,Nat.reduceEqDiff,reduceIte,Int.reduceLT,Int.reduceLE]
 refine ZV ?_
 simp only [hl,go_sem,Nat.reduceEqDiff,reduceIte,Int.reduceLT,Nat.reduceAdd,Nat.reduceLT]
 refine zh (z9g (E:=E.noPan) hP) ?_
 rintro r L1 ⟨rfl,rfl⟩
 simp only [hl,go_sem,Nat.reduceEqDiff,reduceIte,Int.reduceLT,Nat.reduceAdd,Nat.reduceLT]
 refine ZV ?_
 simp only [hl,go_sem,Nat.reduceEqDiff,reduceIte,Int.reduceLT,Nat.reduceAdd,Nat.reduceLT]
 exact ⟨L.length,rfl,rfl,hl,Keep.trans (Keep.app Keep.refl) hk fun _ _ h=>h⟩
end
end Go.X.TryzW
end
section
open Go Go.X Go.Proofs
set_option maxRecDepth 100000
set_option maxHeartbeats 4000000
namespace Go.X.TryzW
def q325 : XC :=(sO [oI 2 0,oV 3 .nsl] (sO [oO 9 (.ex .mmake []),oM 4 9] (.seq (sO [oM 10 0,oN 11 10,oF 12 2 11,oL 13 12,oY 14 13,oI 15 0] (.block 0 (.loop (sO [oB 16 .lss 15 14] (.seq (cT 16 .skip (.exit 0)) (.seq (.block 1 (sO [oO 17 (.idxS 8 (.t 13) (.t 15)),oO 18 (.loadN 8 (.t 17)),oO 6 (.alloc [(.int .i64 0),(.int .i64 0),(.int .i64 0),(.int .i64 0),(.bool false),(.int .i64 0),(.int .i64 0),(.int .i64 0)]),oU (.store 8 (.t 6) (.t 18))] (.ops [oM 19 4,oF 20 5 6,oL 21 20,oU (.ex (.mset false) [.t 19,.t 21,(.c (.bool true))])]))) (.ops [oK 22 .add 15 1,oM 15 22]))))))) (.seq (sO [oM 23 0,oN 24 23,oF 25 0 24,oL 26 25,oC 27 135 [.t 26],oY 28 27,oI 29 0] (.block 2 (.loop (sO [oB 30 .lss 29 28] (.seq (cT 30 .skip (.exit 2)) (.seq (.block 3 (sO [oO 31 (.idxS 1 (.t 27) (.t 29)),oL 32 31,oM 8 32] (sO [oM 33 8,oM 34 0,oN 35 34,oF 36 1 35,oL 37 36,oB 38 .geq 33 37,oM 39 38,oG 40 39 true (.mov (.t 8)),oG 41 39 true (.mov (.t 0)),oG 42 39 true (.nilck (.t 41)),oG 43 39 true (.fldA 1 (.t 42)),oG 44 39 true (.load1 (.t 43)),oG 45 39 true (.bin .add (.t 44) (oi 1048576)),oG 46 39 true (.bin .lss (.t 40) (.t 45)),oO 47 (.pick (.t 39) (.t 46) (.c (.bool false))),oM 48 47,oG 49 48 true (.mov (.t 4)),oG 50 48 true (.mov (.t 8)),oG 51 48 true (.ex (.mlook false (.bool false) false) [.t 49,.t 50]),oG 52 48 true (.un .not (.t 51)),oO 53 (.pick (.t 48) (.t 52) (.c (.bool false)))] (cT 53 (sO [oM 54 3,oM 55 8,oO 56 (.bslice 1 [(.int .i64 0)] 1 [(0,(.t 55))]),oO 57 (.append 1 8 (.t 54) (.t 56)),oM 3 57] (.ops [oM 58 4,oM 59 8,oU (.ex (.mset false) [.t 58,.t 59,(.c (.bool true))])])) .skip)))) (.ops [oK 60 .add 29 1,oM 29 60]))))))) (.seq (sO [oM 61 0,oN 62 61,oF 63 1 62,oL 64 63,oM 2 64] (.block 4 (.loop (.seq (sO [oM 65 4,oM 66 2,oO 67 (.ex (.mlook false (.bool false) false) [.t 65,.t 66])] (cT 67 .skip (.exit 4))) (.seq (.block 5 .skip) (.ops [oM 68 2,oK 69 .add 68 1,oM 2 69])))))) (sO [oM 70 2,oM 71 3,oM 2 70,oM 3 71] .ret))))))
section
variable {E:Env} {ρ:Rho} {L:List Blk} {K:IV->List Blk->Prop}
theorem zak (hP:E.P=Tryz.prog) {lg d m:Nat} {o st:Int} {c3 c4 c5 c6:IV} (hlg:L[lg]?=some (.cells 7 [[.ptr d 0 0,.int .i64 0,.nsl,c3,c4,c5,c6]])) (hD:L[d]?=some (dskB m o st)) (hm:L[m]?=some (.map [] 0)) :
  XT E 325 [.ptr lg 0 0] L fun r L'=>r=.tup [.int .i64 0,.nsl]/\Keep none' L L':=by
 have ll:=zg hlg
 have ld:=zg hD
 have lm:=zg hm
 refine xt1 (fn:=Tryz.f325) (rs:=[.tmp 2,.tmp 3]) (c:=q325) hP fun ρ h0=>?_
 unfold q325
 simp (maxDischargeDepth:=12) only [h0,hlg,ll,go_sem,Nat.reduceEqDiff,reduceIte,Nat.reduceAdd,Nat.reduceLT]
 refine ZV ?_
 simp (maxDischargeDepth:=12) only [h0,hlg,ll,go_sem,Nat.reduceEqDiff,reduceIte,Int.reduceLT,Nat.reduceAdd]
 refine zh (z3j (E:=E.noPan) hP (d:=d) (m:=m) (o:=o) (st:=st) (by simp (maxDischargeDepth:=12) only [ld,hD,go_sem]) (by simp (maxDischargeDepth:=12) only [lm,hm,go_sem])) ?_
 rintro r L' ⟨rfl,hk⟩
 have hg:=hk.get (t:=L.length) (k:=.map [] 0) (by simp (maxDischargeDepth:=12) only [go_sem]) (fun h=>h)
 have lq:=zg hg
 have hlg1:=hk.get (t:=lg) (k:=.cells 7 [[.ptr d 0 0,.int .i64 0,.nsl,c3,c4,c5,c6]]) (by simp (maxDischargeDepth:=12) only [ll,hlg,go_sem]) (fun h=>h)
 have ll1:=zg hlg1
 simp (maxDischargeDepth:=12) only [go_sem,Nat.reduceEqDiff,reduceIte,Int.reduceLT]
 refine ZV ?_
 simp (maxDischargeDepth:=12) only [h0,hlg1,go_sem,Nat.reduceEqDiff,reduceIte,Int.reduceLT,Nat.reduceAdd,Nat.reduceLT]
 refine ZV ?_
 simp (maxDischargeDepth:=12) only [hg,go_sem,Nat.reduceEqDiff,reduceIte]
 exact Keep.trans (Keep.app Keep.refl) hk fun _ _ h=>h
end
end Go.X.TryzW
end
section
open Go Go.X Go.Proofs
set_option maxRecDepth 100000
set_option maxHeartbeats 4000000
namespace Go.X.TryzW
def q286 : XC :=(sO [oO 6 (.box (.t 2)),oI 8 0] (sO [oM 18 0,oM 19 0,oN 20 18,oF 21 6 20,oU (.store 1 (.t 21) (.c (.bool true))),oN 22 19,oF 23 5 22,oU (.store 1 (.t 23) (.c (.bool true)))] (sO [oM 25 0,oC 26 325 [.t 25],oM 24 26,oX 27 0 24,oX 28 1 24,oM 9 27,oM 10 28] (.seq (sO [oM 29 10,oY 30 29,oI 31 0] (.block 0 (.loop (sO [oB 32 .lss 31 30] (.seq (cT 32 .skip (.exit 0)) (.seq (.block 1 (sO [oO 33 (.idxS 1 (.t 29) (.t 31)),oL 34 33,oM 12 34] (sO [oM 35 0,oN 36 35,oF 37 0 36,oL 38 37,oM 39 12,oC 40 290 [.t 38,.t 39],oM 13 40] (sO [oM 41 13,oK 42 .neq 41 0] (cT 42 (sO [oM 43 13,oM 8 43] .ret) .skip))))) (.ops [oK 44 .add 31 1,oM 31 44]))))))) (sO [oF 45 0 6,oU (.store 1 (.t 45) (oi 1))] (.seq (sO [oM 46 0,oN 47 46,oF 48 2 47,oL 49 48,oY 50 49,oM 14 50] (sO [oM 51 14,oK 52 .gtr 51 0] (cT 52 (.drawR [(oM 53 0,([],false)),(oN 54 53,([],false)),(oF 55 2 54,([],false)),(oL 56 55,([],false)),(oM 57 14,([],false)),(oK 58 .sub 57 1,([],false)),(oO 59 (.idxS 8 (.t 56) (.t 58)),([],false)),(oF 60 0 59,([],false)),(oF 61 0 60,([],false)),(oL 62 61,([],false)),(oK 63 .add 62 1,([],false)),(oM 64 0,([],false)),(oN 65 64,([],false)),(oF 66 2 65,([],false)),(oL 67 66,([],true)),(oM 68 14,([],false)),(oK 69 .sub 68 1,([],false)),(oO 70 (.idxS 8 (.t 67) (.t 69)),([],true)),(oF 71 6 70,([],false)),(oL 72 71,([],true)),(oF 73 0 6,([],false)),(oS 73 63,([14,17,19],false)),(oF 74 1 6,([],false)),(oS 74 72,([],false))]) .skip))) (.seq (.drawE [oM 75 1,oF 76 0 6,oL 77 76,oF 78 1 6,oL 79 78,oF 80 2 6,oL 81 80,oF 82 3 6,oL 83 82,oM 84 3,oY 85 84,oM 86 3,oQ 87 202 [.t 86],oO 88 (.cvInt .i64 (.t 87)),oO 89 (.bslice 1 [(.int .i64 0)] 6 [(0,(.t 77)),(1,(.t 79)),(2,(.t 81)),(3,(.t 83)),(4,(.t 85)),(5,(.t 88))]),oC 90 288 [.t 75,.t 89],oM 91 3,oO 92 (.ex (.appT 5 1) [.t 90,.t 91]),oM 15 92]) (.seq (sO [oM 93 0,oM 94 9,oM 95 15,oC 96 285 [.t 93,.t 94,.t 95],oM 16 96] (sO [oM 97 16,oK 98 .neq 97 0] (cT 98 (sO [oM 99 16,oM 8 99] .ret) .skip))) (.seq (sO [oM 100 1,oO 101 (.bin .eql (.t 100) (.c (.int .u8 119)))] (cT 101 (sO [oM 102 0,oN 103 102,oF 104 2 103,oL 105 104,oY 106 105,oI 107 0] (.block 2 (.loop (sO [oB 108 .lss 107 106] (.seq (cT 108 .skip (.exit 2)) (.seq (.block 3 (sO [oM 109 107,oM 17 109] (.drawE [oM 110 0,oN 111 110,oF 112 2 111,oL 113 112,oM 114 17,oF 115 2 6,oL 116 115,oO 117 (.idxS 8 (.t 113) (.t 114)),oF 118 7 117,oS 118 116]))) (.ops [oK 119 .add 107 1,oM 107 119]))))))) .skip)) (.seq (.drawR [(oM 120 0,([],false)),(oM 121 0,([],false)),(oN 122 121,([],false)),(oF 123 2 122,([],false)),(oL 124 123,([],true)),(oO 125 (.loadN 4 (.t 6)),([],false)),(oM 126 9,([],false)),(oM 127 15,([],false)),(oY 128 127,([],false)),(oM 129 0,([],false)),(oQ 130 206 [.t 129],([],false)),(oO 131 (.build [(.int .i64 0),(.int .i64 0),(.int .i64 0),(.int .i64 0),(.bool false),(.int .i64 0),(.int .i64 0),(.int .i64 0)] [(0,(4,(.t 125))),(5,(1,(.t 126))),(6,(1,(.t 128))),(7,(1,(.t 130)))]),([],false)),(oO 132 (.bslice 8 [(.int .i64 0),(.int .i64 0),(.int .i64 0),(.int .i64 0),(.bool false),(.int .i64 0),(.int .i64 0),(.int .i64 0)] 1 [(0,(.t 131))]),([4],false)),(oO 133 (.append 8 64 (.t 124) (.t 132)),([],false)),(oN 134 120,([],false)),(oF 135 2 134,([],false)),(oS 135 133,([],false))]) (sO [oM 136 0,oM 137 0,oN 138 136,oF 139 6 138,oU (.store 1 (.t 139) (.c (.bool false))),oN 140 137,oF 141 5 140,oU (.store 1 (.t 141) (.c (.bool false)))] (sO [oI 8 0] .ret))))))))))))
section
variable {E:Env} {ρ:Rho} {L:List Blk} {K:IV->List Blk->Prop}
@[go_sem] theorem zjJ {z v0 v1 v2 v3 v4 v5:IV} {KV:IV->List Blk->Prop} (h0:cellsOf v0=[v0]) (h1:cellsOf v1=[v1]) (h2:cellsOf v2=[v2]) (h3:cellsOf v3=[v3]) (h4:cellsOf v4=[v4]) (h5:cellsOf v5=[v5]):xop E (.bslice 1 [z] 6 [(0,.c v0),(1,.c v1),(2,.c v2),(3,.c v3),(4,.c v4),(5,.c v5)]) cev L KV=KV (.sl L.length 0 6 6) (L++[.cells 1 [[v0],[v1],[v2],[v3],[v4],[v5]]]):=by simp [xop,Zi,zU,h0,h1,h2,h3,h4,h5,List.replicate]
theorem Bts.agree {L':List Blk} {x:IV} {rs:List (List IV)} (h:Bts L x rs) (ha:∀i,i<L.length->L'[i]?=L[i]?):Bts L' x rs:=by
 obtain ⟨⟨b,rfl,hb⟩ | rfl,hr,hN⟩:=h
 ·exact ⟨.inl ⟨b,rfl,hb.imp (fun h=>by rw [ha b (zf h)];exact h) (fun h=>by rw [ha b (zf h)];exact h)⟩,hr,hN⟩
 ·exact ⟨.inr rfl,hr,hN⟩
theorem Bts.lt {x:IV} {rs:List (List IV)} (h:Bts L x rs):∀b o n c,x=.sl b o n c->b<L.length:=by
 obtain ⟨⟨b,rfl,hb⟩ | rfl,hr,hN⟩:=h
 ·rintro b o n c ⟨⟩;exact hb.elim zf zf
 ·intro b o n c h;cases h
theorem zeu (hP:E.P=Tryz.prog) {x:IV} {rs:List (List IV)} (hx:Bts L x rs) {KV:IV->List Blk->Prop} (hk:KV (.int .u32 (sumOf rs)) L):xop E (.pcall (.c (.fn (.func 202) [] [])) [.c x]) cev L KV:=by
 obtain ⟨⟨b,rfl,hb⟩ | rfl,hr⟩:=id hx
 ·exact yH (.int .u32 (sumOf rs)) rfl (fun L' ha=>z7B hP (hx.agree ha)) hk
 ·exact Zt (args':=[.isl rs]) rfl (z7B (L:=[]) hP ⟨.inr rfl,hr⟩) (fun _=>rfl) hk
theorem z7Q (hP:E.P=Tryz.prog) {lg k:Nat} {f:Int} {c0 c1 c2 c4 c5 c6:IV} (hlg:L[lg]?=some (.cells 7 [[c0,c1,c2,.int .i64 f,c4,c5,c6]])) (h4:lenOf c4=some k) {KV:IV->List Blk->Prop} (hk:KV (.int .i64 (IntKind.i64.wrap (f+k))) L) :
  xop E (.pcall (.c (.fn (.func 206) [] [])) [.c (.ptr lg 0 0)]) cev L KV:=by
 refine yH _ rfl (fun L' ha=>?_) hk
 exact z4F hP (by rw [ha lg (zf hlg)];exact hlg) h4
theorem Zz {M:List Blk} {s n sz:Nat} {A:List (List IV)} (h:M[s]?=some (.cells sz A)) (hn:A.length=n):rowsOf M (.sl s 0 n n)=some A:=by subst hn;simp [rowsOf,h]
theorem YM {sz by_:Nat} {x:IV} {rs:List (List IV)} {KV:IV->List Blk->Prop} (hr:rowsOf L x=some rs) (hc:yj sz rs) (hne:rs≠[]) (hb:rs.length*by_<=70368744177664) (hk:KV (.sl L.length 0 rs.length rs.length) (L++[.cells sz rs])):xop E (.append sz by_ (.c .nsl) (.c x)) cev L KV:=by
 show ZA sz by_ .nsl x L KV
 unfold ZA
 rw [hr]
 exact ⟨hc,fun h=>absurd h hne,fun _=>⟨hb,hk⟩⟩
theorem z7v (hP:E.P=Tryz.prog) {lg d m k:Nat} {o st f n0 n1 n2 n3:Int} {c4 c5 c6 x:IV} {rs:List (List IV)} (hlg:L[lg]?=some (.cells 7 [[.ptr d 0 0,.int .i64 0,.nsl,.int .i64 f,c4,c5,c6]])) (hD:L[d]?=some (dskB m o st)) (hm:L[m]?=some (.map [] 0))
  (h4:lenOf c4=some k) (hx:Bts L x rs) (hne:rs≠[]) (hN:rs.length+100<=70368744177664) :
  XT E 286 [.ptr lg 0 0,.int .u8 104,.agg [.int .i64 n0,.int .i64 n1,.int .i64 n2,.int .i64 n3],x] L fun r L'=>r=.int .i64 0/\∃F' sb,ZL L' d F' (rs.length+57)/\Grown (fun t=>t=d\/t=m) F' L L'/\
   L'[lg]?=some (.cells 7 [[.ptr d 0 0,.int .i64 0,.sl sb 0 1 1,.int .i64 f,c4,.bool false,.bool false]])/\L.length<=sb/\¬F' sb/\(∃s0 s1 s2 s3 sz la:Int,L'[sb]?=some (.cells 8 [[.int .i64 s0,.int .i64 s1,.int .i64 s2,.int .i64 s3,.bool false,.int .i64 0,.int .i64 sz,.int .i64 la]]))/\
   Keep (fun t=>t=lg\/t=d\/t=m) L L':=by
 have ll:=zg hlg
 have ld:=zg hD
 have lm:=zg hm
 have q1:=zo hlg hD (by simp [dskB])
 have q2:=zo hlg hm (by simp)
 have q3:=zo hD hm (by simp [dskB])
 have cx:cellsOf x=[x]:=hx.cell
 refine xt4 (fn:=Tryz.f286) (rs:=[.tmp 8]) (c:=q286) hP fun ρ h0 h1 h2 h3=>?_
 unfold q286
 simp (maxDischargeDepth:=12) only [h0,h2,hlg,ll,go_sem,Nat.reduceEqDiff,reduceIte,Nat.reduceAdd,Nat.reduceLeDiff]
 refine zh (zak (E:=E.noPan) hP (lg:=lg) (d:=d) (m:=m) (o:=o) (st:=st) (c3:=.int .i64 f) (c4:=c4) (c5:=.bool true) (c6:=.bool true) (by simp (maxDischargeDepth:=12) only [ll,go_sem]) (by simp (maxDischargeDepth:=12) only [ld,q1,hD,go_sem]) (by simp (maxDischargeDepth:=12) only [lm,q2,hm,go_sem])) ?_
 rintro r L1 ⟨rfl,hk⟩
 have hk0:Keep (fun t=>t=lg) L L1:=by
  refine Keep.trans ?_ hk (fun _ _ h=>h.elim)
  (repeat' first | exact Keep.refl | apply Keep.app | apply Keep.set)<;>(intro hh;first | rfl | exact .inl rfl | exact .inr rfl | exact .inr (.inl rfl) | exact .inr (.inr rfl) | exact .inr (.inr (.inl rfl)) | exact .inr (.inr (.inr rfl)) | (exfalso;first | omega | (simp only [lla,lls,llc,lln] at hh;omega)))
 have hxl:∀b o n c,x=.sl b o n c->¬b=lg:=by
  obtain ⟨⟨b',rfl,hb⟩ | rfl,_⟩:=hx
  ·rintro b o n c ⟨⟩ rfl
   rcases hb with hb | hb<;>(rw [hlg] at hb;simp at hb)
  ·intro b o n c h;cases h
 have hlg1:=hk.get (t:=lg) (k:=.cells 7 [[.ptr d 0 0,.int .i64 0,.nsl,.int .i64 f,c4,.bool true,.bool true]]) (by simp (maxDischargeDepth:=12) only [ll,go_sem]) (fun h=>h)
 have hh1:=hk.get (t:=L.length) (k:=.cells 4 [[.int .i64 n0,.int .i64 n1,.int .i64 n2,.int .i64 n3]]) (by simp (maxDischargeDepth:=12) only [ll,go_sem]<;>rfl) (fun h=>h)
 have hD1:=hk.get (t:=d) (k:=dskB m o st) (by simp (maxDischargeDepth:=12) only [ld,q1,hD,go_sem]) (fun h=>h)
 have hm1:=hk.get (t:=m) (k:=.map [] 0) (by simp (maxDischargeDepth:=12) only [lm,q2,hm,go_sem]) (fun h=>h)
 have ll1:=zg hlg1
 have lh1:=zg hh1
 have ld1:=zg hD1
 have lm1:=zg hm1
 have p1:(L.length=lg)=False:=eq_false (by have:=zf hlg;omega)
 have p2:(L.length=d)=False:=eq_false (by have:=zf hD;omega)
 have p3:(L.length=m)=False:=eq_false (by have:=zf hm;omega)
 have hx1:Bts L1 x rs:=hx.keep hk0 hxl
 simp (maxDischargeDepth:=12) only [go_sem,Nat.reduceEqDiff,reduceIte,Nat.reduceAdd,Nat.reduceLT]
 refine ZV ?_
 simp (maxDischargeDepth:=12) only [h0,h1,h3,hlg1,hh1,lh1,p1,go_sem,Nat.reduceEqDiff,reduceIte,Int.reduceLT,Nat.reduceAdd,Nat.reduceLT,Nat.reduceLeDiff]
 obtain ⟨L2,hL2⟩:∃L2,L1.set L.length (Blk.cells 4 [[.int .i64 1,.int .i64 n1,.int .i64 n2,.int .i64 n3]])=L2:=⟨_,rfl⟩
 have hk2:Keep (fun t=>t=L.length) L1 L2:=by rw [<-hL2];(repeat' first | exact Keep.refl | apply Keep.app | apply Keep.set)<;>(intro hh;first | rfl | exact .inl rfl | exact .inr rfl | exact .inr (.inl rfl) | exact .inr (.inr rfl) | exact .inr (.inr (.inl rfl)) | exact .inr (.inr (.inr rfl)) | (exfalso;first | omega | (simp only [lla,lls,llc,lln] at hh;omega)))
 have hlg2:=hk2.get hlg1 (fun h=>of_eq_false p1 h.symm)
 have hD2:=hk2.get hD1 (fun h=>of_eq_false p2 h.symm)
 have hm2:=hk2.get hm1 (fun h=>of_eq_false p3 h.symm)
 have hh2:L2[L.length]?=some (.cells 4 [[.int .i64 1,.int .i64 n1,.int .i64 n2,.int .i64 n3]]):=by rw [<-hL2];simp (maxDischargeDepth:=12) only [lh1,go_sem]
 have ll2:=zg hlg2
 have lh2:=zg hh2
 have ld2:=zg hD2
 have lm2:=zg hm2
 have hxh:∀b o n c,x=.sl b o n c->¬b=L.length:=by
  intro b o n c h hb
  have:=hx.lt b o n c h
  omega
 have hx2:Bts L2 x rs:=hx1.keep hk2 hxh
 rw [hL2]
 simp (maxDischargeDepth:=12) only [h3,zC hx.len,go_sem,Nat.reduceEqDiff,reduceIte,Int.reduceLT]
 refine zeu (E:=E.noPan) hP hx2 ?_
 simp (maxDischargeDepth:=12) only [go_sem,Nat.reduceEqDiff,reduceIte,Int.reduceLT]
 refine zh (z96 (E:=E.noPan) hP (b:=L2.length) (l:=[[.int .i64 1],[.int .i64 n1],[.int .i64 n2],[.int .i64 n3],[.int .i64 rs.length],[.int .i64 (IntKind.i64.wrap (sumOf rs))]]) (by simp (maxDischargeDepth:=12) only [go_sem]) (by simp) (by simp)) ?_
 rintro r L3 ⟨⟨g,M,rfl,hML,hgl,hgb,hgr⟩,hk3⟩
 have hk23:Keep none' L2 L3:=Keep.trans (Keep.app Keep.refl) hk3 fun _ _ h=>h
 have hgl2:L2.length<g:=by have:=hgl;simp only [lla,llc,lln] at this;omega
 have hx3:Bts L3 x rs:=hx2.keep0 hk23
 have hbr:zx rs:=hx.2.1
 have hML':M.length=57:=by rw [hML];rfl
 have hlg3:=hk23.get hlg2 fun h=>h
 have hh3:=hk23.get hh2 fun h=>h
 have hD3:=hk23.get hD2 fun h=>h
 have hm3:=hk23.get hm2 fun h=>h
 have e5:8*[[IV.int .i64 1],[IV.int .i64 n1],[IV.int .i64 n2],[IV.int .i64 n3],[IV.int .i64 rs.length],[IV.int .i64 (IntKind.i64.wrap (sumOf rs))]].length+9=57:=rfl
 rw [e5] at *
 simp (maxDischargeDepth:=12) only [h0,h3,go_sem,Nat.reduceEqDiff,reduceIte,Int.reduceLT]
 refine WA (rows:=M) (rs:=rs) rfl hgb hML' hx3.rows hbr.rowsC hne (by omega) ?_
 obtain ⟨L4,hL4⟩:∃L4,L3.set g .dead++[.tcells 5 1 (M++rs)]=L4:=⟨_,rfl⟩
 have l4:L4.length=L3.length+1:=by rw [<-hL4];simp
 have g4:L4[L3.length]?=some (.tcells 5 1 (M++rs)):=by rw [<-hL4];simp (maxDischargeDepth:=12) only [go_sem]
 have hk34:Keep (fun t=>t=g) L3 L4:=by rw [<-hL4];(repeat' first | exact Keep.refl | apply Keep.app | apply Keep.set)<;>(intro hh;first | rfl | exact .inl rfl | exact .inr rfl | exact .inr (.inl rfl) | exact .inr (.inr rfl) | exact .inr (.inr (.inl rfl)) | exact .inr (.inr (.inr rfl)) | (exfalso;first | omega | (simp only [lla,lls,llc,lln] at hh;omega)))
 have hl2:=zf hlg2
 have hd2:=zf hD2
 have hm2':=zf hm2
 have hh2':=zf hh2
 have hlg4:=hk34.get hlg3 (by omega)
 have hD4:=hk34.get hD3 (by omega)
 have hm4:=hk34.get hm3 (by omega)
 have hh4:=hk34.get hh3 (by omega)
 have hl3:L2.length<=L3.length:=hk23.1
 rw [hL4]
 simp (maxDischargeDepth:=12) only [go_sem]
 have hlen:(M++rs).length=57+rs.length:=by rw [lla,hML']
 refine zh (zbp (E:=E.noPan) hP (lg:=lg) (d:=d) (F:=fun t=>t=d\/t=m) (N:=0) (rs:=M++rs) hlg4 (by rintro (h | h);exact of_eq_false q1 h;exact of_eq_false q2 h) ⟨m,o,st,hD4,.inl ⟨hm4,rfl⟩⟩ ⟨.inl ⟨L3.length,by rw [hlen],.inr g4⟩,hgr.app hbr,by omega⟩ ?_ ?_ (by omega)) ?_
 ·rintro b o n c h (rfl | rfl)<;>(simp only [IV.sl.injEq] at h;omega)
 ·intro h;have:=congrArg List.length h;simp [hML'] at this
 rintro r L5 ⟨rfl,⟨F',hD5,hg5⟩,hk5⟩
 have hlg5:=hk5.get hlg4 (by rintro (h | h);exact of_eq_false q1 h;exact of_eq_false q2 h)
 have hh5:=hk5.get hh4 (by rintro (h | h);exact of_eq_false p2 h;exact of_eq_false p3 h)
 have ll5:=zg hlg5
 have lh5:=zg hh5
 simp (maxDischargeDepth:=12) only [h0,h1,hlg5,hh5,go_sem,Nat.reduceEqDiff,reduceIte,Int.reduceEq,Int.reduceLT,Nat.reduceAdd,Nat.reduceLT]
 refine z7Q (E:=E.noPan) hP hlg5 h4 ?_
 simp (maxDischargeDepth:=12) only [ll5,go_sem,Nat.reduceEqDiff,reduceIte,Int.reduceEq,Int.reduceLT,Nat.reduceAdd,Nat.reduceLeDiff]
 refine YM (rs:=[[.int .i64 1,.int .i64 n1,.int .i64 n2,.int .i64 n3,.bool false,.int .i64 0,.int .i64 (57+rs.length:Nat),.int .i64 (IntKind.i64.wrap (f+k))]]) (Zz (sz:=8) (by simp (maxDischargeDepth:=12) only [go_sem]) rfl) (fun r hr=>by simp at hr;subst hr;exact ⟨rfl,rfl⟩) (by simp) (by simp) ?_
 simp (maxDischargeDepth:=12) only [h0,hlg5,ll5,go_sem,Nat.reduceEqDiff,reduceIte,Int.reduceEq,Int.reduceLT,Nat.reduceAdd,Nat.reduceLeDiff]
 have hnl:¬(lg=d\/lg=m):=by rintro (h | h);exact of_eq_false q1 h;exact of_eq_false q2 h
 have hF:¬F' lg:=hg5.out (by have:=hk23.1;have:=hk34.1;omega) hnl
 have hLL:L.length<=L1.length:=hk0.1
 have hL12:L1.length<=L2.length:=hk2.1
 have hL34:L3.length<=L4.length:=hk34.1
 have hL45:L4.length<=L5.length:=hk5.1
 have ht5:Keep (fun t=>t=lg\/t=d\/t=m) L L5:=by
  refine Keep.trans (Keep.trans (Keep.trans (Keep.trans (hk0.mono fun t _ h=>.inl h) hk2 ?_) hk23 ?_) hk34 ?_) hk5 ?_
  ·intro t ht h;omega
  ·intro t ht h;exact h.elim
  ·intro t ht h;omega
  ·intro t ht h;exact .inr h
 have hD5':ZL L5 d F' (rs.length+57):=by rw [hlen,Nat.zero_add,Nat.add_comm] at hD5;exact hD5
 refine ⟨F',(L5++[Blk.cells 8 [[.int .i64 1,.int .i64 n1,.int .i64 n2,.int .i64 n3,.bool false,.int .i64 0,.int .i64 (57+rs.length:Nat),.int .i64 (IntKind.i64.wrap (f+k))]]]).length,hD5'.keep (G:=fun t=>t=lg) ?_ (fun t ht h=>hF (h▸ht)),?_,?_,?_,?_,⟨1,n1,n2,n3,(57+rs.length:Nat),IntKind.i64.wrap (f+k),?_⟩,?_⟩
 ·(repeat' first | exact Keep.refl | apply Keep.app | apply Keep.set)<;>(intro hh;first | rfl | exact .inl rfl | exact .inr rfl | exact .inr (.inl rfl) | exact .inr (.inr rfl) | exact .inr (.inr (.inl rfl)) | exact .inr (.inr (.inr rfl)) | (exfalso;first | omega | (simp only [lla,lls,llc,lln] at hh;omega)))
 ·intro t ht
  rcases hg5 t ht with h | ⟨h,h'⟩
  ·exact .inl h
  ·right
   simp only [lla,lls,llc,lln]
   omega
 ·rfl
 ·simp only [lla,llc,lln];omega
 ·intro h
  have hd:=zf hD
  have hm':=zf hm
  rcases hg5 _ h with h | ⟨h,h'⟩
  ·simp only [lla,llc,lln] at h;omega
  ·simp only [lla,llc,lln] at h';omega
 ·first | rfl | simp (maxDischargeDepth:=12) only [ll5,go_sem]
 ·refine Keep.trans ht5 (F':=fun t=>t=lg) ?_ (fun t _ h=>.inl h)
  (repeat' first | exact Keep.refl | apply Keep.app | apply Keep.set)<;>(intro hh;first | rfl | exact .inl rfl | exact .inr rfl | exact .inr (.inl rfl) | exact .inr (.inr rfl) | exact .inr (.inr (.inl rfl)) | exact .inr (.inr (.inr rfl)) | (exfalso;first | omega | (simp only [lla,lls,llc,lln] at hh;omega)))
end
end Go.X.TryzW
end
section
open Go Go.X Go.Proofs
set_option maxRecDepth 100000
set_option maxHeartbeats 4000000
namespace Go.X.TryzW
def q144 : XC :=(sO [oV 2 .nsl] (.seq (sO [oM 3 0,oO 4 (.isNil 0 false (.t 3))] (cT 4 (sO [oV 2 .nsl] .ret) .skip)) (sO [oO 5 (.bslice 1 [(.int .u8 0)] 0 []),oM 6 0,oO 7 (.ex (.appT 5 1) [.t 5,.t 6]),oM 2 7] .ret)))
def q224 : XC :=(sO [oI 4 0] (sO [oM 7 0,oN 8 7,oF 9 5 8,oU (.store 1 (.t 9) (.c (.bool true)))] (.seq (sO [oM 10 0,oN 11 10,oF 12 2 11,oL 13 12,oY 14 13,oK 15 .gtr 14 0,oM 16 15,oG 17 16 true (.mov (.t 0)),oG 18 16 true (.nilck (.t 17)),oG 19 16 true (.fldA 6 (.t 18)),oG 20 16 true (.load1 (.t 19)),oG 21 16 true (.un .not (.t 20)),oO 22 (.pick (.t 16) (.t 21) (.c (.bool false)))] (cT 22 (.seq (.draw [oM 23 0,oN 24 23,oF 25 2 24,oL 26 25,oM 27 0,oN 28 27,oF 29 2 28,oL 30 29,oY 31 30,oK 32 .sub 31 1,oO 33 (.idxS 8 (.t 26) (.t 32)),oM 5 33]) (sO [oM 34 0,oN 35 34,oF 36 6 35,oU (.store 1 (.t 36) (.c (.bool true)))] (.seq (sO [oM 37 0,oM 38 5,oN 39 38,oF 40 5 39,oL 41 40,oM 42 1,oC 43 285 [.t 37,.t 41,.t 42],oM 6 43] (sO [oM 44 6,oK 45 .neq 44 0] (cT 45 (sO [oM 46 6,oM 4 46] .ret) .skip))) (sO [oM 47 5,oN 48 47,oF 49 6 48,oL 50 49,oM 51 1,oY 52 51,oB 53 .add 50 52,oN 54 47,oF 55 6 54,oS 55 53] (sO [oM 56 0,oM 57 0,oN 58 56,oF 59 6 58,oU (.store 1 (.t 59) (.c (.bool false))),oN 60 57,oF 61 5 60,oU (.store 1 (.t 61) (.c (.bool false)))] (sO [oI 4 0] .ret)))))) .skip)) (.seq (sO [oM 62 0,oN 63 62,oF 64 2 63,oL 65 64,oY 66 65,oK 67 .lss 66 1024] (cT 67 (.seq (.drawE [oM 68 0,oM 69 0,oN 70 69,oF 71 3 70,oL 72 71,oM 73 0,oQ 74 206 [.t 73],oO 75 (.build [(.int .i64 0),(.int .i64 0),(.int .i64 0),(.int .i64 0)] [(2,(1,(.t 72))),(3,(1,(.t 74)))]),oM 76 1,oC 77 286 [.t 68,(.c (.int .u8 104)),.t 75,.t 76],oM 4 77]) .ret) .skip)) (.seq (.drawR [(oM 78 0,([],false)),(oM 79 0,([],false)),(oN 80 79,([],false)),(oF 81 3 80,([],false)),(oL 82 81,([],true)),(oM 83 0,([],false)),(oN 84 83,([],false)),(oF 85 3 84,([],false)),(oL 86 85,([],true)),(oO 87 (.build [(.int .i64 0),(.int .i64 0),(.int .i64 0),(.int .i64 0)] [(2,(1,(.t 82))),(3,(1,(.t 86)))]),([],false)),(oM 88 0,([],false)),(oM 89 0,([],false)),(oN 90 89,([],false)),(oF 91 3 90,([],false)),(oL 92 91,([],false)),(oQ 93 287 [.t 88,.t 92],([],false)),(oM 94 1,([],false)),(oO 95 (.ex (.appT 5 1) [.t 93,.t 94]),([4,8],false)),(oQ 96 286 [.t 78,(.c (.int .u8 119)),.t 87,.t 95],([],false)),(oM 4 96,([],false))]) .ret)))))
def q226 : XC :=(.block 0 (.loop (.seq (.seq (.draw [oM 2 0,oN 3 2,oF 4 2 3,oL 5 4,oY 6 5,oK 7 .gtr 6 1,oM 8 7,oG 9 8 true (.mov (.t 0)),oG 10 8 true (.nilck (.t 9)),oG 11 8 true (.fldA 2 (.t 10)),oG 12 8 true (.load1 (.t 11)),oG 13 8 true (.idxS 8 (.t 12) (oi 0)),oG 14 8 true (.fldA 7 (.t 13)),oG 15 8 true (.load1 (.t 14)),oG 16 8 true (.mov (.t 0)),oG 17 8 true (.nilck (.t 16)),oG 18 8 true (.fldA 3 (.t 17)),oG 19 8 true (.load1 (.t 18)),oG 20 8 true (.bin .leq (.t 15) (.t 19)),oO 21 (.pick (.t 8) (.t 20) (.c (.bool false)))]) (cT 21 .skip (.exit 0))) (.block 1 (.seq (.seq (.drawE [oM 22 0,oN 23 22,oF 24 0 23,oL 25 24,oM 26 0,oN 27 26,oF 28 2 27,oL 29 28,oO 30 (.idxS 8 (.t 29) (oi 0)),oF 31 5 30,oL 32 31,oC 33 290 [.t 25,.t 32],oK 34 .neq 33 0]) (cT 34 .ret .skip)) (.ops [oM 35 0,oM 36 0,oN 37 36,oF 38 2 37,oL 39 38,oO 40 (.slice 8 (.t 39) (some (oi 1)) none),oN 41 35,oF 42 2 41,oS 42 40]))))))
section
variable {E:Env} {ρ:Rho} {L:List Blk} {K:IV->List Blk->Prop}
theorem Y8 {L:List Blk} {n:Nat} {m:Ren} {rs:List (List IV)} (h:zx rs):mapO (mapO (conv L (n+1) m)) rs=some rs:=by
 refine Yf fun r hr=>?_
 obtain ⟨v,rfl⟩:=h r hr
 rfl
theorem z0J (hP:E.P=Tryz.prog) {rs:List (List IV)} (hr:zx rs) (hne:rs≠[]) (hN:rs.length<=70368744177664):zI E 144 [.isl rs] (.isl rs):=by
 refine yu (n:=Tryz.f144.ntmps) (c:=q144) (t:=2) (by rw [hP];rfl) (by rw [hP];kernel_rfl) (by decide) (Nat.le_of_ble_eq_true rfl) ?_
 generalize hρ:entry _=ρ
 have h0:ρ 0=.isl rs:=by rw [<-hρ];rfl
 clear hρ
 unfold q144
 simp only [h0,go_sem,Nat.reduceEqDiff,reduceIte]
 refine ⟨?_,fun h=>absurd h hne⟩
 refine ja (rows:=[]) (rs:=rs) rfl (.inl rfl) rfl rfl hr.rowsC hne (by simpa using hN) ?_
 intro k hk
 have hle:(0+rs.length<=rs.length):=by omega
 have hz:0+(0+rs.length)<=([]++rs:List (List IV)).length:=by simp
 rcases hk with rfl | rfl<;>(simp only [fuel,conv,zy,List.nil_append,Nat.zero_add,List.set_cons_zero,List.cons_append,List.getElem?_cons_succ,List.getElem?_cons_zero,Nat.le_refl,if_true,List.drop_zero,List.take_length];rw [Y8 hr];rfl)
theorem z5J (hP:E.P=Tryz.prog) {lg sb:Nat} {c0 c1 c3 c4 c5 c6:IV} (hlg:L[lg]?=some (.cells 7 [[c0,c1,.sl sb 0 1 1,c3,c4,c5,c6]])):XT E 226 [.ptr lg 0 0] L fun r L'=>r=.tup []/\L'=L:=by
 have ll:=zg hlg
 refine xt1 (fn:=Tryz.f226) (rs:=[]) (c:=q226) hP fun ρ h0=>?_
 unfold q226
 refine ZV ?_
 simp only [h0,hlg,go_sem,Nat.reduceEqDiff,reduceIte,Int.reduceLT,Nat.reduceAdd,Nat.reduceLT]
 rfl
theorem z4g (hP:E.P=Tryz.prog) {lg d m k:Nat} {o st f:Int} {c4 x:IV} {rs:List (List IV)} {c5 c6:IV} (hlg:L[lg]?=some (.cells 7 [[.ptr d 0 0,.int .i64 0,.nsl,.int .i64 f,c4,c5,c6]])) (hD:L[d]?=some (dskB m o st)) (hm:L[m]?=some (.map [] 0))
  (h4:lenOf c4=some k) (hx:Bts L x rs) (hne:rs≠[]) (hN:rs.length+100<=70368744177664) :
  XT E 224 [.ptr lg 0 0,x] L fun r L'=>r=.int .i64 0/\∃F' sb,ZL L' d F' (rs.length+57)/\Grown (fun t=>t=d\/t=m) F' L L'/\
   L'[lg]?=some (.cells 7 [[.ptr d 0 0,.int .i64 0,.sl sb 0 1 1,.int .i64 f,c4,.bool false,.bool false]])/\L.length<=sb/\¬F' sb/\(∃s0 s1 s2 s3 sz la:Int,L'[sb]?=some (.cells 8 [[.int .i64 s0,.int .i64 s1,.int .i64 s2,.int .i64 s3,.bool false,.int .i64 0,.int .i64 sz,.int .i64 la]]))/\
   Keep (fun t=>t=lg\/t=d\/t=m) L L':=by
 have ll:=zg hlg
 have q1:=zo hlg hD (by simp [dskB])
 have q2:=zo hlg hm (by simp)
 refine xt2 (fn:=Tryz.f224) (rs:=[.tmp 4]) (c:=q224) hP fun ρ h0 h1=>?_
 unfold q224
 simp only [h0,hlg,ll,go_sem,Nat.reduceEqDiff,reduceIte,Int.reduceLT,Nat.reduceAdd,Nat.reduceLT,Nat.reduceLeDiff]
 have hk1:Keep (fun t=>t=lg) L (L.set lg (.cells 7 [[.ptr d 0 0,.int .i64 0,.nsl,.int .i64 f,c4,.bool true,c6]])):=by (repeat' first | exact Keep.refl | apply Keep.app | apply Keep.set)<;>(intro hh;first | rfl | exact .inl rfl | exact .inr rfl | exact .inr (.inl rfl) | exact .inr (.inr rfl) | exact .inr (.inr (.inl rfl)) | exact .inr (.inr (.inr rfl)) | (exfalso;first | omega | (simp only [lla,lls,llc,lln] at hh;omega)))
 obtain ⟨L1,hL1⟩:∃L1,L.set lg (Blk.cells 7 [[.ptr d 0 0,.int .i64 0,.nsl,.int .i64 f,c4,.bool true,c6]])=L1:=⟨_,rfl⟩
 rw [hL1] at hk1
 rw [hL1]
 have hlg1:L1[lg]?=some (.cells 7 [[.ptr d 0 0,.int .i64 0,.nsl,.int .i64 f,c4,.bool true,c6]]):=by rw [<-hL1];simp only [ll,go_sem]
 have ll1:=zg hlg1
 have hxl:∀b o n c,x=.sl b o n c->¬b=lg:=by
  obtain ⟨⟨b',rfl,hb⟩ | rfl,_⟩:=hx
  ·rintro b o n c ⟨⟩ rfl
   rcases hb with hb | hb<;>(rw [hlg] at hb;simp at hb)
  ·intro b o n c h;cases h
 have hx1:=hx.keep hk1 hxl
 refine z7Q (E:=E.noPan) hP hlg1 h4 ?_
 simp only [h1,go_sem,Nat.reduceEqDiff,reduceIte,Int.reduceLT,Nat.reduceAdd,Nat.reduceLeDiff]
 refine zh (z7v (E:=E.noPan) hP hlg1 (hk1.get hD fun h=>of_eq_false q1 h.symm) (hk1.get hm fun h=>of_eq_false q2 h.symm) h4 hx1 hne hN) ?_
 rintro r L2 ⟨rfl,F',sb,hD2,hg2,hlg2,hsb,hF,hs,hk2⟩
 simp only [go_sem,Nat.reduceEqDiff,reduceIte,Int.reduceLT]
 have e1:L1.length=L.length:=by rw [<-hL1,lls]
 exact ⟨F',sb,hD2,fun t ht=>by rw [<-e1];exact hg2 t ht,hlg2,by omega,hF,hs,(hk1.mono fun t _ h=>.inl h).trans hk2 fun t _ h=>h⟩
theorem write_next (hP:E.P=Tryz.prog) {lg d sb N:Nat} {f s0 s1 s2 s3 sz la:Int} {F:Nat->Prop} {c4 c5 x w:IV} {rs:List (List IV)} (hlg:L[lg]?=some (.cells 7 [[.ptr d 0 0,.int .i64 0,.sl sb 0 1 1,.int .i64 f,c4,c5,.bool false]])) (hs:L[sb]?=some (.cells 8 [[.int .i64 s0,.int .i64 s1,.int .i64 s2,.int .i64 s3,w,.int .i64 0,.int .i64 sz,.int .i64 la]]))
  (hD:ZL L d F N) (hFl:¬F lg) (hFs:¬F sb) (hx:Bts L x rs) (hxF:∀b o n c,x=.sl b o n c->¬F b) (hne:rs≠[]) (hN:N+rs.length<=70368744177664) :
  XT E 224 [.ptr lg 0 0,x] L fun r L'=>r=.int .i64 0/\(∃F',ZL L' d F' (N+rs.length)/\Grown F F' L L')/\
   L'[lg]?=some (.cells 7 [[.ptr d 0 0,.int .i64 0,.sl sb 0 1 1,.int .i64 f,c4,.bool false,.bool false]])/\(∃sz:Int,L'[sb]?=some (.cells 8 [[.int .i64 s0,.int .i64 s1,.int .i64 s2,.int .i64 s3,w,.int .i64 0,.int .i64 sz,.int .i64 la]]))/\
   Keep (fun t=>t=lg\/t=sb\/F t) L L':=by
 have ll:=zg hlg
 have ls:=zg hs
 have q1:=zo hlg hs (by simp)
 have q2:=zo hs hlg (by simp)
 refine xt2 (fn:=Tryz.f224) (rs:=[.tmp 4]) (c:=q224) hP fun ρ h0 h1=>?_
 unfold q224
 simp only [wi64,h0,h1,hlg,ll,hs,q1,go_sem,Nat.reduceEqDiff,reduceIte,Int.reduceLT,Int.reduceLE,Nat.reduceAdd,Nat.reduceLT,Nat.reduceLeDiff,Int.reduceToNat,Int.reduceSub,Int.reduceNeg]
 refine ⟨rfl,?_⟩
 obtain ⟨L1,hL1⟩:∃L1,(L.set lg (Blk.cells 7 [[.ptr d 0 0,.int .i64 0,.sl sb 0 1 1,.int .i64 f,c4,.bool true,.bool false]])).set lg (Blk.cells 7 [[.ptr d 0 0,.int .i64 0,.sl sb 0 1 1,.int .i64 f,c4,.bool true,.bool true]])=L1:=⟨_,rfl⟩
 have hk1:Keep (fun t=>t=lg) L L1:=by rw [<-hL1];(repeat' first | exact Keep.refl | apply Keep.app | apply Keep.set)<;>(intro hh;first | rfl | exact .inl rfl | exact .inr rfl | exact .inr (.inl rfl) | exact .inr (.inr rfl) | exact .inr (.inr (.inl rfl)) | exact .inr (.inr (.inr rfl)) | (exfalso;first | omega | (simp only [lla,lls,llc,lln] at hh;omega)))
 have hlg1:L1[lg]?=some (.cells 7 [[.ptr d 0 0,.int .i64 0,.sl sb 0 1 1,.int .i64 f,c4,.bool true,.bool true]]):=by rw [<-hL1];simp only [ll,go_sem]
 rw [hL1]
 have hxl:∀b o n c,x=.sl b o n c->¬b=lg:=by
  obtain ⟨⟨b',rfl,hb⟩ | rfl,_⟩:=hx
  ·rintro b o n c ⟨⟩ rfl
   rcases hb with hb | hb<;>(rw [hlg] at hb;simp at hb)
  ·intro b o n c h;cases h
 have hs1:=hk1.get hs fun h=>of_eq_false q1 h.symm
 have hx1:=hx.keep hk1 hxl
 refine zh (zbp (E:=E.noPan) hP hlg1 hFl (hD.keep hk1 fun t ht h=>hFl (h▸ht)) hx1 hxF hne hN) ?_
 rintro r L2 ⟨rfl,⟨F',hD2,hg2⟩,hk2⟩
 have hlg2:=hk2.get hlg1 hFl
 have hs2:=hk2.get hs1 hFs
 have ll2:=zg hlg2
 have ls2:=zg hs2
 simp only [wi64,h0,h1,hlg2,hs2,ll2,ls2,q1,q2,zC hx.len,go_sem,Nat.reduceEqDiff,reduceIte,Int.reduceLT,Int.reduceLE,Nat.reduceAdd,Nat.reduceLT,Nat.reduceLeDiff,Int.reduceToNat,Int.reduceSub,Int.reduceNeg]
 have e1:L1.length=L.length:=by rw [<-hL1];simp
 have hFl':¬F' lg:=hg2.out (zf hlg1) hFl
 have hFs':¬F' sb:=hg2.out (zf hs1) hFs
 refine ⟨⟨F',hD2.keep (G:=fun t=>t=lg\/t=sb) ?_ (by rintro t ht (rfl | rfl);exact hFl' ht;exact hFs' ht),?_⟩,⟨_,rfl⟩,?_⟩
 ·(repeat' first | exact Keep.refl | apply Keep.app | apply Keep.set)<;>(intro hh;first | rfl | exact .inl rfl | exact .inr rfl | exact .inr (.inl rfl) | exact .inr (.inr rfl) | exact .inr (.inr (.inl rfl)) | exact .inr (.inr (.inr rfl)) | (exfalso;first | omega | (simp only [lla,lls,llc,lln] at hh;omega)))
 ·intro t ht
  rcases hg2 t ht with h | h
  ·exact .inl h
  ·right;simp only [lls];omega
 ·refine Keep.trans ((hk1.mono fun t _ h=>.inl h).trans hk2 fun t _ h=>.inr (.inr h)) (F':=fun t=>t=lg\/t=sb) ?_ (by rintro t _ (h | h);exact .inl h;exact .inr (.inl h))
  (repeat' first | exact Keep.refl | apply Keep.app | apply Keep.set)<;>(intro hh;first | rfl | exact .inl rfl | exact .inr rfl | exact .inr (.inl rfl) | exact .inr (.inr rfl) | exact .inr (.inr (.inl rfl)) | exact .inr (.inr (.inr rfl)) | (exfalso;first | omega | (simp only [lla,lls,llc,lln] at hh;omega)))
end
end Go.X.TryzW
end
section
open Go Go.X Go.Proofs
set_option maxRecDepth 100000
set_option maxHeartbeats 4000000
namespace Go.X.TryzW
def q165 : XC :=(sO [oI 4 0,oI 5 0] (.seq (sO [oM 8 1,oY 9 8,oK 10 .gtr 9 1048576] (cT 10 (sO [oM 11 0,oN 12 11,oF 13 5 12,oU (.store 1 (.t 13) (.c (.bool false)))] (sO [oI 4 0,oI 5 9] .ret)) .skip)) (sO [oM 14 0,oC 15 206 [.t 14],oM 6 15] (.seq (sO [oM 16 0,oM 17 6,oM 18 1,oC 19 225 [.t 17,.t 18],oC 20 224 [.t 16,.t 19],oM 7 20] (sO [oM 21 7,oK 22 .neq 21 0] (cT 22 (sO [oM 23 7,oI 4 0,oM 5 23] .ret) .skip))) (.seq (.drawR [(oM 24 0,([],false)),(oM 25 0,([],false)),(oN 26 25,([],false)),(oF 27 4 26,([],false)),(oL 28 27,([],true)),(oM 29 1,([],false)),(oQ 30 144 [.t 29],([],false)),(oO 31 (.bslice 1 [.nsl] 1 [(0,(.t 30))]),([4],false)),(oO 32 (.append 1 24 (.t 28) (.t 31)),([],false)),(oN 33 24,([],false)),(oF 34 4 33,([],false)),(oS 34 32,([],false))]) (.seq (.drawE [oM 35 0,oN 36 35,oF 37 2 36,oL 38 37,oM 39 0,oN 40 39,oF 41 2 40,oL 42 41,oY 43 42,oK 44 .sub 43 1,oM 45 6,oK 46 .add 45 1,oO 47 (.idxS 8 (.t 38) (.t 44)),oF 48 7 47,oS 48 46]) (sO [oM 49 0,oC 50 226 [.t 49]] (sO [oM 51 6,oM 4 51,oI 5 0] .ret))))))))
section
variable {E:Env} {ρ:Rho} {L:List Blk} {K:IV->List Blk->Prop}
theorem Yg {sz by_ t n:Nat} {x:IV} {rs rows:List (List IV)} {KV:IV->List Blk->Prop} (hL:L[t]?=some (.cells sz rows)) (hn:rows.length=n) (hr:rowsOf L x=some rs) (hc:yj sz rs) (hne:rs≠[]) (hb:(n+rs.length)*by_<=70368744177664)
  (hk:KV (.sl L.length 0 (n+rs.length) (n+rs.length)) (L.set t .dead++[.cells sz (rows++rs)])):xop E (.append sz by_ (.c (.sl t 0 n n)) (.c x)) cev L KV:=by
 subst hn
 show ZA sz by_ (.sl t 0 _ _) x L KV
 unfold ZA
 rw [hr]
 have hpos:0<rs.length:=List.length_pos_iff.2 hne
 refine ⟨hc,?_⟩
 simp only [hL]
 refine ⟨trivial,by omega,?_⟩
 rw [if_neg (by omega)]
 refine ⟨hb,?_⟩
 simpa using hk
def WE (L:List Blk) (lg:Nat) (F:Nat->Prop) (N:Nat):Prop:=∃d,
 (∃m o st,L[lg]?=some (.cells 7 [[.ptr d 0 0,.int .i64 0,.nsl,.int .i64 0,.nsl,.bool false,.bool false]])/\L[d]?=some (dskB m o st)/\L[m]?=some (.map [] 0)/\F=fun t=>t=lg\/t=d\/t=m)\/
 ∃sb rb k FD rows,∃s0 s1 s2 s3 sz la:Int,L[lg]?=some (.cells 7 [[.ptr d 0 0,.int .i64 0,.sl sb 0 1 1,.int .i64 0,.sl rb 0 k k,.bool false,.bool false]])/\
  L[sb]?=some (.cells 8 [[.int .i64 s0,.int .i64 s1,.int .i64 s2,.int .i64 s3,.bool false,.int .i64 0,.int .i64 sz,.int .i64 la]])/\L[rb]?=some (.cells 1 rows)/\rows.length=k/\yj 1 rows/\k<=N/\
  ZL L d FD N/\¬FD lg/\¬FD sb/\¬FD rb/\F=fun t=>t=lg\/t=sb\/t=rb\/FD t
theorem WE.lt {lg:Nat} {F:Nat->Prop} {N:Nat} (h:WE L lg F N):lg<L.length/\F lg/\∀t,F t->t<L.length:=by
 obtain ⟨d,⟨m,o,st,h1,h2,h3,rfl⟩ | ⟨sb,rb,k,FD,rows,s0,s1,s2,s3,sz,la,h1,h2,h3,h4,h5,h6,h7,h8,h9,h10,rfl⟩⟩:=h
 ·refine ⟨zf h1,.inl rfl,?_⟩
  rintro t (rfl | rfl | rfl)
  ·exact zf h1
  ·exact zf h2
  ·exact zf h3
 ·refine ⟨zf h1,.inl rfl,?_⟩
  rintro t (rfl | rfl | rfl | h)
  ·exact zf h1
  ·exact zf h2
  ·exact zf h3
  ·exact h7.lt.2.2 t h
theorem WE.keep {lg:Nat} {F G:Nat->Prop} {N:Nat} {L':List Blk} (h:WE L lg F N) (hk:Keep G L L') (hn:∀t,F t->¬G t):WE L' lg F N:=by
 obtain ⟨d,⟨m,o,st,h1,h2,h3,rfl⟩ | ⟨sb,rb,k,FD,rows,s0,s1,s2,s3,sz,la,h1,h2,h3,h4,h5,h6,h7,h8,h9,h10,rfl⟩⟩:=h
 ·exact ⟨d,.inl ⟨m,o,st,hk.get h1 (hn _ (.inl rfl)),hk.get h2 (hn _ (.inr (.inl rfl))),hk.get h3 (hn _ (.inr (.inr rfl))),rfl⟩⟩
 ·exact ⟨d,.inr ⟨sb,rb,k,FD,rows,s0,s1,s2,s3,sz,la,hk.get h1 (hn _ (.inl rfl)),hk.get h2 (hn _ (.inr (.inl rfl))),hk.get h3 (hn _ (.inr (.inr (.inl rfl)))),h4,h5,h6,h7.keep hk fun t ht=>hn t (.inr (.inr (.inr ht))),h8,h9,h10,rfl⟩⟩
theorem ZL.mono {d N N':Nat} {F:Nat->Prop} (h:ZL L d F N) (hn:N<=N'):ZL L d F N':=by
 obtain ⟨m,o,st,h1,h2⟩:=h
 refine ⟨m,o,st,h1,h2.imp id ?_⟩
 rintro ⟨f,b,kp,rows,h3,h4,h5,h6,h7⟩
 exact ⟨f,b,kp,rows,h3,h4,h5,Nat.le_trans h6 hn,h7⟩
theorem jA (hP:E.P=Tryz.prog) {lg N:Nat} {F:Nat->Prop} {rs:List (List IV)} (hL:WE L lg F N) (hr:zx rs) (hne:rs≠[]) (hsz:rs.length<=1048576) (hN:N+rs.length+200<=1099511627776) :
  XT E 165 [.ptr lg 0 0,.isl rs] L fun r L'=>(∃n:Int,r=.tup [.int .i64 n,.int .i64 0])/\(∃F',WE L' lg F' (N+rs.length+200)/\Grown F F' L L')/\Keep F L L':=by
 have g1:((1048576:Int)<(rs.length:Int))=False:=eq_false (by omega)
 have hx:Bts L (.isl rs) rs:=⟨.inr rfl,hr,by omega⟩
 have hdl:ZL L 0 F 0->True:=fun _=>trivial
 obtain ⟨d,⟨m,o,st,hlg,hD,hm,rfl⟩ | ⟨sb,rb,k,FD,rows,s0,s1,s2,s3,sz,la,hlg,hs,hrb,hk4,hrc,hkN,hD,hFl,hFs,hFr,rfl⟩⟩:=hL
 ·have ll:=zg hlg
  have lx:lenOf (.isl rs)=some rs.length:=rfl
  refine xt2 (fn:=Tryz.f165) (rs:=[.tmp 4,.tmp 5]) (c:=q165) hP fun ρ h0 h1=>?_
  unfold q165
  simp (maxDischargeDepth:=12) only [h0,h1,g1,zC lx,go_sem,Nat.reduceEqDiff,reduceIte]
  refine zh (z4F (E:=E.noPan) hP hlg rfl) ?_
  rintro r L1 ⟨rfl,rfl⟩
  simp (maxDischargeDepth:=12) only [wi64,h0,h1,go_sem,Nat.reduceEqDiff,reduceIte,Int.reduceLE,Int.reduceAdd,Int.reduceNeg]
  refine zh (z2r (E:=E.noPan) hP hx (by omega)) ?_
  rintro r L2 ⟨⟨g,M,rfl,hML,hgl,hgb,hgr⟩,hk2⟩
  simp (maxDischargeDepth:=12) only [wi64,go_sem,Nat.reduceEqDiff,reduceIte,Int.reduceLE,Int.reduceAdd,Int.reduceNeg]
  have hx2:Bts L2 (.sl g 0 (rs.length+25) (rs.length+25)) M:=by rw [<-hML];exact .mk' (.inr hgb) hgr (by omega)
  have hMne:M≠[]:=by intro h;subst h;simp at hML
  have q1:=zo hlg hD (by simp [dskB])
  have q2:=zo hlg hm (by simp)
  refine zh (z4g (E:=E.noPan) hP (hk2.get hlg fun h=>h) (hk2.get hD fun h=>h) (hk2.get hm fun h=>h) rfl hx2 hMne (by omega)) ?_
  rintro r L3 ⟨rfl,F',sb,hD3,hg3,hlg3,hsb,hF,⟨s0,s1,s2,s3,sz,la,hs3⟩,hk3⟩
  have ll3:=zg hlg3
  have ls3:=zg hs3
  have q3:=zo hlg3 hs3 (by simp)
  have q4:=zo hs3 hlg3 (by simp)
  simp (maxDischargeDepth:=12) only [wi64,h0,h1,hlg3,go_sem,Nat.reduceEqDiff,reduceIte,Int.reduceLE,Nat.reduceAdd,Nat.reduceLT,Int.reduceAdd,Int.reduceNeg]
  refine Zt (E:=E.noPan) (args':=[.isl rs]) rfl (z0J hP hr hne (by omega)) (fun _=>rfl) ?_
  simp (maxDischargeDepth:=12) only [wi64,ll3,cellsOf,go_sem,Nat.reduceEqDiff,reduceIte,Int.reduceLE,Nat.reduceAdd,Int.reduceAdd,Int.reduceNeg]
  refine YM (rs:=[[.isl rs]]) (Zz (sz:=1) (by simp (maxDischargeDepth:=12) only [go_sem]) rfl) (fun r hr=>by simp at hr;subst hr;exact ⟨rfl,rfl⟩) (by simp) (by simp) ?_
  simp (maxDischargeDepth:=12) only [wi64,h0,hlg3,ll3,hs3,ls3,q3,go_sem,Nat.reduceEqDiff,reduceIte,Int.reduceLT,Int.reduceLE,Nat.reduceAdd,Nat.reduceLT,Nat.reduceLeDiff,Int.reduceToNat,Int.reduceSub,Int.reduceAdd,Int.reduceNeg]
  refine zh (z5J (E:=E.noPan) hP (lg:=lg) (sb:=sb) (by simp (maxDischargeDepth:=12) only [ll3,q4,go_sem]<;>rfl)) ?_
  rintro r L4 ⟨rfl,rfl⟩
  simp (maxDischargeDepth:=12) only [wi64,go_sem,Nat.reduceEqDiff,reduceIte,Int.reduceLE,Int.reduceToNat,Int.reduceSub,Int.reduceAdd,Int.reduceNeg]
  have e2:L1.length<=L2.length:=hk2.1
  have e4:=zf hs3
  have e3:L2.length<=L3.length:=hk3.1
  have hll:=zf hlg
  have hF1:¬F' lg:=hg3.out (by omega) (by rintro (h | h);exact of_eq_false q1 h;exact of_eq_false q2 h)
  have hF3:¬F' (L3++[Blk.cells 1 [[.isl rs]]]).length:=fun h=>by
   have hlt:=hD3.lt.2.2 _ h
   simp only [lla,llc,lln] at hlt
   omega
  refine ⟨⟨_,rfl⟩,⟨_,⟨d,.inr ⟨sb,(L3++[Blk.cells 1 [[.isl rs]]]).length,1,F',[[.isl rs]],s0,s1,s2,s3,sz,1,?_,?_,?_,rfl,?_,by omega,(hD3.mono (N':=N+rs.length+200) (by omega)).keep (G:=fun t=>t=lg\/t=sb) ?_ ?_,hF1,hF,hF3,rfl⟩⟩,?_⟩,?_⟩
  ·simp (maxDischargeDepth:=12) only [ll3,q4,go_sem]
  ·simp (maxDischargeDepth:=12) only [ls3,go_sem]
  ·simp (maxDischargeDepth:=12) only [ll3,ls3,go_sem]
  ·intro r hr;simp at hr;subst hr;exact ⟨rfl,rfl⟩
  ·(repeat' first | exact Keep.refl | apply Keep.app | apply Keep.set)<;>(intro hh;first | rfl | exact .inl rfl | exact .inr rfl | exact .inr (.inl rfl) | exact .inr (.inr rfl) | exact .inr (.inr (.inl rfl)) | exact .inr (.inr (.inr rfl)) | (exfalso;first | omega | (simp only [lla,lls,llc,lln] at hh;omega)))
  ·rintro t ht (rfl | rfl)
   ·exact hF1 ht
   ·exact hF ht
  ·rintro t (rfl | rfl | rfl | ht)
   ·exact .inl (.inl rfl)
   ·right;simp only [lla,lls,llc,lln];omega
   ·right;simp only [lla,lls,llc,lln];omega
   ·rcases hg3 t ht with (rfl | rfl) | h
    ·exact .inl (.inr (.inl rfl))
    ·exact .inl (.inr (.inr rfl))
    ·right;simp only [lla,lls,llc,lln];omega
  ·refine Keep.trans ((hk2.mono fun t _ h=>h.elim).trans hk3 fun t _ h=>h) (F':=fun t=>t=lg\/t=sb) ?_ (by rintro t htl (h | h);exact .inl h;omega)
   (repeat' first | exact Keep.refl | apply Keep.app | apply Keep.set)<;>(intro hh;first | rfl | exact .inl rfl | exact .inr rfl | exact .inr (.inl rfl) | exact .inr (.inr rfl) | exact .inr (.inr (.inl rfl)) | exact .inr (.inr (.inr rfl)) | (exfalso;first | omega | (simp only [lla,lls,llc,lln] at hh;omega)))
 ·have ll:=zg hlg
  have lx:lenOf (.isl rs)=some rs.length:=rfl
  refine xt2 (fn:=Tryz.f165) (rs:=[.tmp 4,.tmp 5]) (c:=q165) hP fun ρ h0 h1=>?_
  unfold q165
  simp (maxDischargeDepth:=12) only [h0,h1,g1,zC lx,go_sem,Nat.reduceEqDiff,reduceIte]
  refine zh (z4F (E:=E.noPan) hP hlg rfl) ?_
  rintro r L1 ⟨rfl,rfl⟩
  simp (maxDischargeDepth:=12) only [h0,h1,go_sem,Nat.reduceEqDiff,reduceIte]
  refine zh (z2r (E:=E.noPan) hP hx (by omega)) ?_
  rintro r L2 ⟨⟨g,M,rfl,hML,hgl,hgb,hgr⟩,hk2⟩
  simp (maxDischargeDepth:=12) only [go_sem,Nat.reduceEqDiff,reduceIte]
  have hx2:Bts L2 (.sl g 0 (rs.length+25) (rs.length+25)) M:=by rw [<-hML];exact .mk' (.inr hgb) hgr (by omega)
  have hMne:M≠[]:=by intro h;subst h;simp at hML
  have hDl:=hD.lt
  refine zh (write_next (E:=E.noPan) hP (hk2.get hlg fun h=>h) (hk2.get hs fun h=>h) (hD.keep hk2 fun _ _ h=>h) hFl hFs hx2 (fun b o n c h hb=>by simp only [IV.sl.injEq] at h;have:=hDl.2.2 b hb;omega) hMne (by omega)) ?_
  rintro r L3 ⟨rfl,⟨F',hD3,hg3⟩,hlg3,⟨sz,hs3⟩,hk3⟩
  have hll:=zf hlg
  have hsl:=zf hs
  have hrl:=zf hrb
  have n1:¬rb=lg:=of_eq_false (zo hrb hlg (by simp))
  have n2:¬rb=sb:=of_eq_false (zo hrb hs (by simp))
  have hrb3:=hk3.get (hk2.get hrb fun h=>h) (by rintro (h | h | h);exact n1 h;exact n2 h;exact hFr h)
  have ll3:=zg hlg3
  have ls3:=zg hs3
  have lr3:=zg hrb3
  have q3:=zo hlg3 hs3 (by simp)
  have q4:=zo hs3 hlg3 (by simp)
  have q5:=zo hlg3 hrb3 (by simp)
  have q6:=zo hrb3 hlg3 (by simp)
  have q7:=zo hrb3 hs3 (by simp)
  have q8:=zo hs3 hrb3 (by simp)
  simp (maxDischargeDepth:=12) only [h0,h1,hlg3,go_sem,Nat.reduceEqDiff,reduceIte,Nat.reduceAdd,Nat.reduceLT]
  refine Zt (E:=E.noPan) (args':=[.isl rs]) rfl (z0J hP hr hne (by omega)) (fun _=>rfl) ?_
  simp (maxDischargeDepth:=12) only [ll3,cellsOf,go_sem,Nat.reduceEqDiff,reduceIte,Nat.reduceAdd]
  refine Yg (rows:=rows) (rs:=[[.isl rs]]) (by simp (maxDischargeDepth:=12) only [lr3,hrb3,go_sem]) hk4 (Zz (sz:=1) (by simp (maxDischargeDepth:=12) only [go_sem]) rfl) (fun r hr=>by simp at hr;subst hr;exact ⟨rfl,rfl⟩) (by simp) (by simp;omega) ?_
  simp (maxDischargeDepth:=12) only [wi64,h0,hlg3,ll3,hs3,ls3,q3,q6,q7,go_sem,Nat.reduceEqDiff,reduceIte,Int.reduceLT,Int.reduceLE,Nat.reduceAdd,Nat.reduceLT,Nat.reduceLeDiff,Int.reduceToNat,Int.reduceSub,Int.reduceNeg]
  refine zh (z5J (E:=E.noPan) hP (lg:=lg) (sb:=sb) (by simp (maxDischargeDepth:=12) only [ll3,q4,go_sem]<;>rfl)) ?_
  rintro r L4 ⟨rfl,rfl⟩
  simp (maxDischargeDepth:=12) only [wi64,go_sem,Nat.reduceEqDiff,reduceIte,Int.reduceLE,Int.reduceToNat,Int.reduceSub,Int.reduceNeg]
  have e2:L1.length<=L2.length:=hk2.1
  have e4:=zf hs3
  have e3:L2.length<=L3.length:=hk3.1
  have hF1:¬F' lg:=hg3.out (by omega) hFl
  have hF2:¬F' sb:=hg3.out (by omega) hFs
  have hF3:¬F' (L3++[Blk.cells 1 [[.isl rs]]]).length:=fun h=>by
   have hlt:=hD3.lt.2.2 _ h
   simp only [lla,llc,lln] at hlt
   omega
  refine ⟨⟨_,rfl⟩,⟨_,⟨d,.inr ⟨sb,(L3++[Blk.cells 1 [[.isl rs]]]).length,k+1,F',rows++[[.isl rs]],s0,s1,s2,s3,sz,IntKind.i64.wrap (IntKind.i64.wrap (0+k)+1),?_,?_,?_,by simp [hk4],?_,?_,(hD3.mono (N':=N+rs.length+200) (by omega)).keep (G:=fun t=>t=lg\/t=sb\/t=rb) ?_ ?_,hF1,hF2,hF3,rfl⟩⟩,?_⟩,?_⟩
  ·simp (maxDischargeDepth:=12) only [ll3,q4,go_sem]
  ·simp (maxDischargeDepth:=12) only [ls3,go_sem]
  ·simp (maxDischargeDepth:=12) only [ll3,ls3,go_sem]
  ·intro r hr
   rcases List.mem_append.1 hr with h | h
   ·exact hrc r h
   ·simp at h;subst h;exact ⟨rfl,rfl⟩
  ·omega
  ·(repeat' first | exact Keep.refl | apply Keep.app | apply Keep.set)<;>(intro hh;first | rfl | exact .inl rfl | exact .inr rfl | exact .inr (.inl rfl) | exact .inr (.inr rfl) | exact .inr (.inr (.inl rfl)) | exact .inr (.inr (.inr rfl)) | (exfalso;first | omega | (simp only [lla,lls,llc,lln] at hh;omega)))
  ·rintro t ht (rfl | rfl | rfl)
   ·exact hF1 ht
   ·exact hF2 ht
   ·exact hg3.out (by omega) hFr ht
  ·rintro t (rfl | rfl | rfl | ht)
   ·exact .inl (.inl rfl)
   ·exact .inl (.inr (.inl rfl))
   ·right;simp only [lla,lls,llc,lln];omega
   ·rcases hg3 t ht with h | h
    ·exact .inl (.inr (.inr (.inr h)))
    ·right;simp only [lla,lls,llc,lln];omega
  ·refine Keep.trans ((hk2.mono fun t _ h=>h.elim).trans (F:=fun t=>t=lg\/t=sb\/t=rb\/FD t) hk3 (by rintro t _ (h | h | h);exact .inl h;exact .inr (.inl h);exact .inr (.inr (.inr h)))) (F':=fun t=>t=lg\/t=sb\/t=rb) ?_ (by rintro t htl (h | h | h);exact .inl h;exact .inr (.inl h);exact .inr (.inr (.inl h)))
   (repeat' first | exact Keep.refl | apply Keep.app | apply Keep.set)<;>(intro hh;first | rfl | exact .inl rfl | exact .inr rfl | exact .inr (.inl rfl) | exact .inr (.inr rfl) | exact .inr (.inr (.inl rfl)) | exact .inr (.inr (.inr rfl)) | (exfalso;first | omega | (simp only [lla,lls,llc,lln] at hh;omega)))
end
end Go.X.TryzW
end
section
open Go Go.X Go.Proofs
set_option maxRecDepth 100000
set_option maxHeartbeats 4000000
namespace Go.X.TryzW
def q102 : XC :=(.seq (sO [oM 9 1,oM 10 2,oB 11 .lss 9 10,oM 12 11,oG 13 12 false (.mov (.t 1)),oG 14 12 false (.mov (.t 3)),oG 15 12 false (.bin .gtr (.t 13) (.t 14)),oO 16 (.pick (.t 12) (.c (.bool true)) (.t 15))] (cT 16 (.ops [oO 17 (.build [(.int .i64 0)] []),oO 18 (.ex (.mkif 274) [.t 17]),oU (.ex .panic [.t 18])]) .skip)) (sO [oI 8 0] (.seq (.block 0 (.loop (.seq (sO [oM 19 1,oM 20 8,oO 21 (.bin .mul (oi 8) (.t 20)),oB 22 .shr 19 21,oK 23 .gtr 22 0] (cT 23 .skip (.exit 0))) (.block 1 (.ops [oM 24 8,oK 25 .add 24 1,oM 8 25]))))) (sO [oM 26 0,oM 27 0,oN 28 27,oF 29 0 28,oL 30 29,oM 31 8,oO 32 (.cvInt .u8 (.t 31)),oO 33 (.bslice 1 [(.int .u8 0)] 1 [(0,(.t 32))]),oO 34 (.ex (.appT 5 1) [.t 30,.t 33]),oN 35 26,oF 36 0 35,oS 36 34] (.block 2 (.loop (.seq (sO [oM 37 8,oK 38 .gtr 37 0] (cT 38 .skip (.exit 2))) (.block 3 (sO [oM 39 8,oK 40 .sub 39 1,oM 8 40] (.drawR [(oM 41 0,([],false)),(oM 42 0,([],false)),(oN 43 42,([],false)),(oF 44 0 43,([],false)),(oL 45 44,([],true)),(oM 46 1,([],false)),(oM 47 8,([],false)),(oO 48 (.bin .mul (oi 8) (.t 47)),([],false)),(oB 49 .shr 46 48,([],false)),(oO 50 (.cvInt .u8 (.t 49)),([],false)),(oO 51 (.bslice 1 [(.int .u8 0)] 1 [(0,(.t 50))]),([4],false)),(oO 52 (.ex (.appT 5 1) [.t 45,.t 51]),([],false)),(oN 53 41,([],false)),(oF 54 0 53,([],false)),(oS 54 52,([],false))]))))))))))
def q107 : XC :=(.ops [oM 4 0,oM 5 1,oC 6 102 [.t 4,.t 5,(oi 0),(oi 4503599627370496)]])
def q106 : XC :=(sO [oM 4 0,oM 5 1,oO 6 (.lenS (.t 5)),oC 7 102 [.t 4,.t 6,(oi 0),(oi 1048576)]] (.ops [oM 8 0,oM 9 0,oN 10 9,oF 11 0 10,oL 12 11,oM 13 1,oO 14 (.ex (.appT 5 1) [.t 12,.t 13]),oN 15 8,oF 16 0 15,oS 16 14]))
section
variable {E:Env} {ρ:Rho} {L:List Blk} {K:IV->List Blk->Prop}
def zl (n:Nat):Nat:=if h:n=0 then 0 else zl (n / 256)+1
 termination_by n
 decreasing_by omega
theorem wR (n:Nat):∀s:Nat,0<n / 256^s↔s<zl n:=by
 induction n using Nat.strongRecOn with
 | _ n ih=>
  intro s
  rw [zl]
  by_cases h:n=0
  ·rw [dif_pos h,h];simp
  ·rw [dif_neg h]
   cases s with
   | zero=>simp;omega
   | succ s=>
    have h1:=ih (n / 256) (by omega) s
    rw [show n / 256^(s+1)=n / 256 / 256^s by rw [Nat.pow_succ,Nat.mul_comm,Nat.div_div_eq_div_mul]]
    omega
theorem Za {n k:Nat} (h:n<256^k):zl n<=k:=by
 rcases Nat.lt_or_ge k (zl n) with h1 | h1
 ·have:=(wR n k).2 h1
  rw [Nat.div_eq_of_lt h] at this
  omega
 ·exact h1
theorem z5s {n s:Nat} (hs:s<=8):bshr .i64 (n:Int) ((8*s:Nat):Int)=((n / 256^s:Nat):Int):=by
 have e0:IntKind.i64.bits=64:=rfl
 have e1:((8*s:Nat):Int).toNat=8*s:=by omega
 have e2:min (8*s) 64=8*s:=by omega
 unfold bshr
 rw [e0,e1,e2,Int.pow_mul]
 show (n:Int).fdiv ((256:Int)^s)=_
 rw [Int.fdiv_eq_ediv_of_nonneg _ (Int.le_of_lt (Int.pow_pos (by decide)))]
 norm_cast
def numR (n:Nat):List (List IV):=[.int .u8 (zl n)]::((List.range' 0 (zl n)).reverse.map fun i=>[IV.int .u8 (n / 256^i%256:Nat)])
theorem zH (n:Nat):zx (numR n):=by
 intro r hr
 rcases List.mem_cons.1 hr with rfl | hr
 ·exact ⟨_,rfl⟩
 ·obtain ⟨i,_,rfl⟩:=List.mem_map.1 hr
  exact ⟨_,rfl⟩
theorem zF (n:Nat):(numR n).length=zl n+1:=by simp [numR]
def yJ (L:List Blk) (p:Nat) (F:Nat->Prop) (bs:List (List IV)):Prop:=∃v,L[p]?=some (.cells 1 [[v]])/\zx bs/\
 ((v=.nsl/\bs=[]/\F=fun t=>t=p)\/∃g,v=.sl g 0 bs.length bs.length/\(L[g]?=some (.cells 1 bs)\/L[g]?=some (.tcells 5 1 bs))/\bs≠[]/\¬g=p/\F=fun t=>t=p\/t=g)
theorem yJ.lt {p:Nat} {F:Nat->Prop} {bs:List (List IV)} (h:yJ L p F bs):p<L.length/\F p/\∀t,F t->t<L.length:=by
 obtain ⟨v,h1,_,⟨_,_,rfl⟩ | ⟨g,_,h2,_,_,rfl⟩⟩:=h
 ·exact ⟨zf h1,rfl,by rintro t rfl;exact zf h1⟩
 ·refine ⟨zf h1,.inl rfl,?_⟩
  rintro t (rfl | rfl)
  ·exact zf h1
  ·exact h2.elim zf zf
theorem yJ.keep {p:Nat} {F G:Nat->Prop} {bs:List (List IV)} {L':List Blk} (h:yJ L p F bs) (hk:Keep G L L') (hn:∀t,F t->¬G t):yJ L' p F bs:=by
 obtain ⟨v,h1,h0,⟨h2,h3,rfl⟩ | ⟨g,h2,h3,h4,h5,rfl⟩⟩:=h
 ·exact ⟨v,hk.get h1 (hn _ rfl),h0,.inl ⟨h2,h3,rfl⟩⟩
 ·exact ⟨v,hk.get h1 (hn _ (.inl rfl)),h0,.inr ⟨g,h2,h3.imp (fun h=>hk.get h (hn _ (.inr rfl))) (fun h=>hk.get h (hn _ (.inr rfl))),h4,h5,rfl⟩⟩
theorem r1 {m s:Nat} {f:Nat->List IV}:((List.range' s (m+1)).reverse.map f)=((List.range' (s+1) m).reverse.map f)++[f s]:=by
 rw [List.range'_succ,List.reverse_cons,List.map_append];rfl
theorem wrap_u8 (n:Nat):IntKind.u8.wrap (n:Int)=((n%256:Nat):Int):=by
 simp [IntKind.wrap,IntKind.signed,IntKind.bits]
theorem JP {p g:Nat} {F:Nat->Prop} {v x:IV} {bs rs:List (List IV)} {K:IV->List Blk->Prop} (hv:L[p]?=some (.cells 1 [[v]])) (h:yJ L p F bs) (hr:zx rs) (hne:rs≠[]) (hx:rowsOf L x=some rs) (hN:bs.length+rs.length<=70368744177664)
  (hg:L.length=g) (hk:∀(M:List Blk) (k:Blk),M.length=g->Keep (fun t=>F t/\t≠p) L M->(k=.cells 1 (bs++rs)\/k=.tcells 5 1 (bs++rs))->K (.sl g 0 (bs.length+rs.length) (bs.length+rs.length)) (M++[k])):Y1 5 1 v x g L K:=by
 obtain ⟨v',h1,h0,⟨rfl,rfl,rfl⟩ | ⟨b,rfl,h3,h4,h5,rfl⟩⟩:=h
 ·rw [hv] at h1;simp at h1;subst h1
  refine z2T hg hx hr.rowsC hne (by simpa using hN) ?_
  have:=hk L (.tcells 5 1 ([]++rs)) hg Keep.refl (.inr rfl)
  simpa using this
 ·rw [hv] at h1;simp at h1;subst h1
  refine ja hg h3 rfl hx hr.rowsC hne (by simpa using hN) ?_
  intro k hkb
  exact hk (L.set b .dead) k (by rw [lls,hg]) (Keep.set Keep.refl fun _=>⟨.inr rfl,h5⟩) hkb
theorem z1G {M:List Blk} {p g n:Nat} {v:IV} {bs:List (List IV)} {k:Blk} (hM:M[p]?=some (.cells 1 [[v]])) (hk:k=.cells 1 bs\/k=.tcells 5 1 bs) (hb:zx bs) (hne:bs≠[]) (hg:M.length=g) (hn:bs.length=n) :
  yJ ((M++[k]).set p (.cells 1 [[.sl g 0 n n]])) p (fun t=>t=p\/t=g) bs:=by
 subst hg;subst hn
 have hlt:=zf hM
 refine ⟨_,?_,hb,.inr ⟨M.length,rfl,?_,hne,by omega,rfl⟩⟩
 ·rw [List.getElem?_set_self (by rw [lla];omega)]
 ·rw [List.getElem?_set_ne (by omega),List.getElem?_append_right (Nat.le_refl _)]
  rcases hk with rfl | rfl
  ·left;simp
  ·right;simp
theorem wQ (hP:E.P=Tryz.prog) {p n:Nat} {F:Nat->Prop} {bs:List (List IV)} {least most:Int} (h:yJ L p F bs) (h1:least<=(n:Int)) (h2:(n:Int)<=most) (hn:n<256^7) (hN:bs.length+100<=70368744177664) :
  XT E 102 [.ptr p 0 0,.int .i64 n,.int .i64 least,.int .i64 most] L fun r L'=>r=.tup []/\(∃F',yJ L' p F' (bs++numR n)/\Grown F F' L L')/\Keep F L L':=by
 have f1:((n:Int)<least)=False:=eq_false (by omega)
 have f2:(most<(n:Int))=False:=eq_false (by omega)
 have hs7:=Za hn
 refine xt4 (fn:=Tryz.f102) (rs:=[]) (c:=q102) hP fun ρ h0 h1 h2 h3=>?_
 unfold q102
 simp only [h1,h2,h3,f1,f2,go_sem,Nat.reduceEqDiff,reduceIte]
 obtain ⟨v,hv,hbr,_⟩:=id h
 have lp:=zg hv
 refine zT (fun m ρ L'=>∃s:Nat,s<=zl n/\m=zl n - s/\L'=L/\ρ 0=.ptr p 0 0/\ρ 1=.int .i64 n/\ρ 8=.int .i64 s) ⟨0,Nat.zero_le _,rfl,rfl,by simp only [h0,go_sem,Nat.reduceEqDiff,reduceIte],by simp only [h1,go_sem,Nat.reduceEqDiff,reduceIte],by simp only [go_sem,Nat.reduceEqDiff,reduceIte]<;>rfl⟩ ?_
 clear h0 h1 h2 h3 ρ
 rintro m ρ L' ⟨s,hs,rfl,rfl,h0,h1,h8⟩
 have w8:IntKind.i64.wrap (8*(s:Int))=((8*s:Nat):Int):=by rw [wrap64 (by omega) (by omega)];omega
 have b8:=z5s (n:=n) (s:=s) (by omega)
 by_cases hc:s<zl n
 ·have f:((0:Int)<((n / 256^s:Nat):Int))=True:=eq_true (by have:=(wR n s).2 hc;omega)
  have w1:IntKind.i64.wrap ((s:Int)+1)=((s+1:Nat):Int):=by rw [wrap64 (by omega) (by omega)];omega
  simp only [h0,h1,h8,w8,b8,f,w1,go_sem,Nat.reduceEqDiff,reduceIte]
  exact ⟨zl n - (s+1),by omega,s+1,by omega,rfl,rfl⟩
 ·have f:((0:Int)<((n / 256^s:Nat):Int))=False:=eq_false (by have:=show ¬0<n / 256^s from (fun h=>hc ((wR n s).1 h));omega)
  have hse:s=zl n:=by omega
  have wu:IntKind.u8.wrap (s:Int)=(zl n:Int):=by rw [hse,wrap_u8,Nat.mod_eq_of_lt (by omega)]
  simp only [h0,h1,h8,w8,b8,f,hv,wu,go_sem,Nat.reduceEqDiff,reduceIte]
  have hN':=hN
  refine JP (rs:=[[.int .u8 (zl n)]]) (by simp only [hv,lp,go_sem]) (h.keep (G:=none') (by (repeat' first | exact Keep.refl | apply Keep.app | apply Keep.set)<;>(intro hh;first | rfl | (exfalso;first | omega | (simp only [lla,lls,llc,lln] at hh;omega)))) fun _ _ h=>h) (fun r hr=>by simp at hr;exact ⟨_,hr⟩) (by simp) (yF (by simp only [go_sem]) rfl) (by simp;omega) rfl ?_
  intro M k hM hkM hk
  have hvM:M[p]?=some (.cells 1 [[v]]):=hkM.get (by simp only [lp,hv,go_sem]) fun h=>h.2 rfl
  have lpM:=zg hvM
  simp only [hvM,lpM,go_sem]
  have lbr:(bs++[[IV.int .u8 (zl n)]]).length=bs.length+1:=by simp
  have hbr1:zx (bs++[[IV.int .u8 (zl n)]]):=hbr.app (fun r hr=>by simp at hr;exact ⟨_,hr⟩)
  have hpl:=h.lt
  have hgL:(L'++[Blk.cells 1 [[IV.int .u8 (zl n)]]]).length=L'.length+1:=by simp
  refine zT (fun m ρ L2=>∃s:Nat,s<=zl n/\m=s/\ρ 0=.ptr p 0 0/\ρ 1=.int .i64 n/\ρ 8=.int .i64 s/\∃F',yJ L2 p F' (bs++([.int .u8 (zl n)]::((List.range' s (zl n - s)).reverse.map fun i=>[IV.int .u8 (n / 256^i%256:Nat)])))/\Grown F F' L' L2/\Keep F L' L2)
   ⟨s,by omega,rfl,by simp only [h0,go_sem,Nat.reduceEqDiff,reduceIte],by simp only [h1,go_sem,Nat.reduceEqDiff,reduceIte],by simp only [h8,go_sem,Nat.reduceEqDiff,reduceIte],fun t=>t=p\/t=(L'++[Blk.cells 1 [[IV.int .u8 (zl n)]]]).length,?_,?_,?_⟩ ?_
  ·have:=z1G hvM hk hbr1 (by simp) hM (n:=bs.length+1) lbr
   rw [hse,Nat.sub_self]
   exact this
  ·rintro t (rfl | rfl)
   ·exact .inl hpl.2.1
   ·right;have:=hM;simp only [lls,lla,llc,lln] at this ⊢;omega
  ·have k1:Keep F L' M:=Keep.trans (Keep.app Keep.refl) (hkM.mono (F':=F) fun t _ h=>h.1) fun _ _ h=>h
   exact Keep.set (Keep.app k1) fun _=>hpl.2.1
  clear h0 h1 h8 hkM hvM lpM hM hk w8 b8 f hv lp wu hs hc hse M k ρ s
  rintro m ρ L2 ⟨s,hs,rfl,h0,h1,h8,F',hP2,hG2,hK2⟩
  obtain ⟨v2,hv2,hbr2,_⟩:=id hP2
  have lp2:=zg hv2
  cases m with
  | zero=>
   have f:((0:Int)<((0:Nat):Int))=False:=eq_false (by omega)
   simp only [h8,go_sem,Nat.reduceEqDiff,reduceIte,Int.reduceLT]
   rw [Nat.sub_zero] at hP2
   exact ⟨⟨F',hP2,hG2⟩,hK2⟩
  | succ s=>
   have f:((0:Int)<((s+1:Nat):Int))=True:=eq_true (by omega)
   have w:IntKind.i64.wrap (((s+1:Nat):Int) - 1)=(s:Int):=by rw [wrap64 (by omega) (by omega)];omega
   have w8:IntKind.i64.wrap (8*(s:Int))=((8*s:Nat):Int):=by rw [wrap64 (by omega) (by omega)];omega
   have b8:=z5s (n:=n) (s:=s) (by omega)
   have wu:=wrap_u8 (n / 256^s)
   simp only [h0,h1,h8,f,w,w8,b8,wu,hv2,lp2,go_sem,Nat.reduceEqDiff,reduceIte,Nat.reduceAdd]
   refine JP (rs:=[[.int .u8 (n / 256^s%256:Nat)]]) (by simp only [hv2,lp2,go_sem]) (hP2.keep (G:=none') (by (repeat' first | exact Keep.refl | apply Keep.app | apply Keep.set)<;>(intro hh;first | rfl | (exfalso;first | omega | (simp only [lla,lls,llc,lln] at hh;omega)))) fun _ _ h=>h) (fun r hr=>by simp at hr;exact ⟨_,hr⟩) (by simp) (yF (by simp only [go_sem]) rfl) (by simp;omega) rfl ?_
   intro M k hM hkM hk
   have hvM:M[p]?=some (.cells 1 [[v2]]):=hkM.get (by simp only [lp2,hv2,go_sem]) fun h=>h.2 rfl
   have lpM:=zg hvM
   simp only [h0,h1,h8,hvM,lpM,go_sem,Nat.reduceEqDiff,reduceIte]
   refine ⟨s,by omega,s,by omega,rfl,rfl,fun t=>t=p\/t=(L2++[Blk.cells 1 [[IV.int .u8 (n / 256^s%256:Nat)]]]).length,?_,?_,?_⟩
   ·have e1:zl n - s=(zl n - (s+1))+1:=by omega
    rw [e1,r1,<-List.cons_append,<-List.append_assoc]
    refine z1G hvM hk (hbr2.app (fun r hr=>by simp at hr;exact ⟨_,hr⟩)) (by simp) hM (by simp;try omega)
   ·rintro t (rfl | rfl)
    ·exact .inl hpl.2.1
    ·right;have:=hM;have:=hK2.1;simp only [lls,lla,llc,lln] at *;omega
   ·have k1:Keep F' L2 M:=Keep.trans (Keep.app Keep.refl) (hkM.mono (F':=F') fun t _ h=>h.1) fun _ _ h=>h
    have k2:=Keep.set (s:=p) (k:=.cells 1 [[.sl (L2++[Blk.cells 1 [[IV.int .u8 (n / 256^s%256:Nat)]]]).length 0 ((bs++([.int .u8 (zl n)]::((List.range' (s+1) (zl n - (s+1))).reverse.map fun i=>[IV.int .u8 (n / 256^i%256:Nat)]))).length+[[IV.int .u8 (n / 256^s%256:Nat)]].length) ((bs++([.int .u8 (zl n)]::((List.range' (s+1) (zl n - (s+1))).reverse.map fun i=>[IV.int .u8 (n / 256^i%256:Nat)]))).length+[[IV.int .u8 (n / 256^s%256:Nat)]].length)]]) (Keep.app (k:=k) k1) fun _=>hP2.lt.2.1
    refine hK2.trans k2 fun t ht h=>?_
    rcases hG2 t h with h | h
    ·exact h
    ·omega
theorem Yq (hP:E.P=Tryz.prog) {p n:Nat} {F:Nat->Prop} {bs:List (List IV)} (h:yJ L p F bs) (hn:n<=4503599627370496) (hN:bs.length+100<=70368744177664) :
  XT E 107 [.ptr p 0 0,.int .i64 n] L fun r L'=>r=.tup []/\(∃F',yJ L' p F' (bs++numR n)/\Grown F F' L L')/\Keep F L L':=by
 refine xt2 (fn:=Tryz.f107) (rs:=[]) (c:=q107) hP fun ρ h0 h1=>?_
 unfold q107
 simp only [h0,h1,go_sem,Nat.reduceEqDiff,reduceIte]
 refine zh (wQ (E:=E.noPan) hP h (by omega) (by omega) (by omega) hN) ?_
 rintro r L' ⟨rfl,h2,h3⟩
 simp only [go_sem]
 exact ⟨h2,h3⟩
def txtR (s:List UInt8):List (List IV):=numR s.length++zi s
theorem Zh (s:List UInt8):zx (zi s):=by
 intro r hr
 obtain ⟨b,_,rfl⟩:=List.mem_map.1 hr
 exact ⟨_,rfl⟩
theorem Ji {s:Nat} {k:Blk} (h:L[s]?=some k):L.set s k=L:=by
 apply List.ext_getElem?
 intro i
 by_cases hi:s=i
 ·subst hi;rw [List.getElem?_set_self (zf h),h]
 ·rw [List.getElem?_set_ne hi]
theorem yJ.cell {p:Nat} {F:Nat->Prop} {v:IV} {bs:List (List IV)} (h:yJ L p F bs) (hv:L[p]?=some (.cells 1 [[v]])):cellsOf v=[v]/\zJ v=true:=by
 obtain ⟨v',h1,h0,⟨rfl,rfl,rfl⟩ | ⟨b,rfl,h3,h4,h5,rfl⟩⟩:=h
 ·rw [hv] at h1;simp at h1;subst h1;exact ⟨rfl,rfl⟩
 ·rw [hv] at h1;simp at h1;subst h1;exact ⟨rfl,rfl⟩
theorem zb4 {p g:Nat} {F:Nat->Prop} {v x:IV} {bs:List (List IV)} {K:IV->List Blk->Prop} (hv:L[p]?=some (.cells 1 [[v]])) (h:yJ L p F bs) (hx:rowsOf L x=some []) (hk:K v L):Y1 5 1 v x g L K:=by
 have hrc:yj 1 []:=fun r hr=>by cases hr
 obtain ⟨v',h1,h0,⟨rfl,rfl,rfl⟩ | ⟨b,rfl,h3,h4,h5,rfl⟩⟩:=h
 ·rw [hv] at h1;simp at h1;subst h1
  unfold Y1
  simp only [hx]
  exact ⟨hrc,fun _=>hk,fun h=>absurd rfl h⟩
 ·rw [hv] at h1;simp at h1;subst h1
  unfold Y1
  simp only [hx]
  rcases h3 with h3 | h3
  ·refine ⟨hrc,trivial,trivial,?_⟩
   simp only [h3]
   unfold ZQ
   simp only [hx,h3]
   refine ⟨hrc,trivial,by simp,?_⟩
   rw [if_pos (by simp)]
   have e1:splice bs (0+bs.length) []=bs:=by simp [splice]
   simp only [lln,Nat.add_zero]
   rw [e1,Ji h3]
   exact hk
  ·refine ⟨hrc,trivial,trivial,?_⟩
   simp only [h3]
   exact ⟨trivial,trivial,trivial,fun _=>hk,fun h=>absurd rfl h⟩
theorem z1t (hP:E.P=Tryz.prog) {p:Nat} {s:List UInt8} {F:Nat->Prop} {bs:List (List IV)} (h:yJ L p F bs) (hs:s.length<=1048576) (hN:bs.length+2000000<=70368744177664) :
  XT E 106 [.ptr p 0 0,.str s] L fun r L'=>r=.tup []/\(∃F',yJ L' p F' (bs++txtR s)/\Grown F F' L L')/\Keep F L L':=by
 refine xt2 (fn:=Tryz.f106) (rs:=[]) (c:=q106) hP fun ρ h0 h1=>?_
 unfold q106
 simp only [h0,h1,go_sem,Nat.reduceEqDiff,reduceIte]
 refine zh (wQ (E:=E.noPan) hP h (by omega) (by omega) (by omega) (by omega)) ?_
 rintro r L1 ⟨rfl,⟨F1,hP1,hG1⟩,hK1⟩
 obtain ⟨v1,hv1,hbr1,hc1⟩:=id hP1
 have lp1:=zg hv1
 have hsz:=Za (n:=s.length) (k:=7) (by omega)
 have hnl:=zF s.length
 simp only [h0,h1,hv1,go_sem,Nat.reduceEqDiff,reduceIte]
 by_cases hse:s=[]
 ·subst hse
  refine zb4 hv1 hP1 rfl ?_
  obtain ⟨hc1,hc2⟩:=hP1.cell hv1
  have hc3:(([v1]:List IV).all zJ=true)=True:=by simp [hc2]
  simp only [hv1,hc1,List.drop,List.append_nil,go_sem]
  rw [Ji hv1]
  refine ⟨hc2,⟨F1,?_,hG1⟩,hK1⟩
  have e1:txtR []=numR 0:=by simp [txtR,zi]
  rw [e1]
  exact hP1
 ·have hrl:(zi s).length=s.length:=by simp [zi]
  have hpos:=List.length_pos_iff.2 hse
  refine JP (rs:=zi s) hv1 hP1 (Zh s) (by intro h;have h7:=congrArg List.length h;rw [hrl] at h7;simp only [lln] at h7;omega) rfl (by have:=hrl;have:=hnl;simp only [lla] at *;omega) rfl ?_
  intro M k hM hkM hk
  have hvM:M[p]?=some (.cells 1 [[v1]]):=hkM.get hv1 fun h=>h.2 rfl
  have lpM:=zg hvM
  simp only [hvM,lpM,go_sem]
  have hpl:=hP1.lt
  refine ⟨⟨fun t=>t=p\/t=L1.length,?_,?_⟩,?_⟩
  ·have e1:bs++txtR s=bs++numR s.length++zi s:=by rw [txtR,List.append_assoc]
   rw [e1]
   rw [e1.symm] at hk ⊢
   rw [e1] at hk ⊢
   refine z1G hvM hk (hbr1.app (Zh s)) (by simp [numR]) hM (by rw [lla,hrl])
  ·rintro t (rfl | rfl)
   ·exact .inl h.lt.2.1
   ·right;have:=hM;have:=hK1.1;simp only [lls,lla,llc,lln] at *;omega
  ·have k1:Keep F1 L1 M:=hkM.mono fun t _ h=>h.1
   refine hK1.trans (Keep.set (Keep.app k1) fun _=>hpl.2.1) fun t ht h=>?_
   rcases hG1 t h with h | h
   ·exact h
   ·omega
end
end Go.X.TryzW
end
