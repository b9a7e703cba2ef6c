/- Parts of the proof: Xhcodec1, Xhcodec2, Xhcodec3, Xhdisk1, Xhdisk2, Xhwal1, Xhwal2, Xhwal3, Xhwal4, Xhwal5, Xhwal6, Xhpen1, Xhprs. -/
import Derived.Test.YtnmhhmbeljlndaaGreatDoorXP12
import Derived.Test.YtnmhhmbeljlndaaGreatDoorProg
set_option linter.unusedVariables false
set_option linter.unusedSimpArgs false
set_option linter.unusedSectionVars false
section
open Go Go.X Go.Proofs
set_option maxRecDepth 100000
set_option maxHeartbeats 4000000
namespace Go.X.TryzW
section
variable {E:Env} {ρ:Rho} {L:List Blk} {K:IV->List Blk->Prop}
def zf0 : XC :=(sO [oV 2 (.int .u32 0)] (sO [oV 3 (.int .u32 4294967295)] (.seq (sO [oM 6 0,oY 7 6,oI 8 0] (.block 0 (.loop (sO [oB 9 .lss 8 7] (.seq (cT 9 .skip (.exit 0)) (.seq (.block 1 (sO [oO 10 (.idxS 1 (.t 6) (.t 8)),oL 11 10,oM 5 11] (sO [oM 12 3,oM 13 5,oO 14 (.cvInt .u32 (.t 13)),oB 15 .xor 12 14,oM 3 15] (sO [oI 16 0] (.block 2 (.loop (sO [oK 17 .lss 16 8] (.seq (cT 17 .skip (.exit 2)) (.seq (.block 3 (.ops [oM 18 3,oO 19 (.bin .shr (.t 18) (.c (.int .u64 1))),oM 20 3,oO 21 (.bin .and (.t 20) (.c (.int .u32 1))),oO 22 (.bin .mul (.c (.int .u32 3988292384)) (.t 21)),oB 23 .xor 19 22,oM 3 23])) (.ops [oK 24 .add 16 1,oM 16 24])))))))))) (.ops [oK 25 .add 8 1,oM 8 25]))))))) (sO [oM 26 3,oO 27 (.un .xor (.t 26)),oM 2 27] .ret))))
def zA (rs:List (List IV)):Prop:=∀r∈rs,∃n:Int,r=[.int .u8 n]
def Bts (L:List Blk) (x:IV) (rs:List (List IV)):Prop:=((∃b,x=.sl b 0 rs.length rs.length/\(L[b]?=some (.cells 1 rs)\/L[b]?=some (.tcells 5 1 rs)))\/x=.isl rs)/\zA rs/\rs.length<=70368744177664
def znz (c:Int):Int:=zdm .u32 (zav .u32 c 1) (IntKind.u32.wrap (3988292384*band .u32 c 1))
def z06:Nat->Int->Int
 | 0,c=>c
 | k+1,c=>znz (z06 k c)
def byteAt (rs:List (List IV)) (i:Nat):Int:=match rs.getD i [] with
 | [.int _ v]=>v
 | _=>0
def za0 (rs:List (List IV)):Nat->Int
 | 0=>4294967295
 | i+1=>z06 8 (zdm .u32 (za0 rs i) (IntKind.u32.wrap (byteAt rs i)))
def sumOf (rs:List (List IV)):Int:=zie .u32 (za0 rs rs.length)
theorem z8l (S:E.P=Tryz.prog) {x:IV} {rs:List (List IV)} (U:Bts L x rs):XT E 202 [x] L fun r L'=>r=.int .u32 (sumOf rs)/\L'=L:=by
 obtain ⟨⟨b,rfl,I | I⟩ | rfl,O,V⟩:=U
 ·have T:=zg I
  refine xt1 (fn:=Tryz.f202) (rs:=[.tmp 2]) (c:=zf0) S fun ρ w=>?_
  unfold zf0
  simp only [w,go_sem]
  refine zC (fun n ρ L'=>∃i:Nat,i<=rs.length/\n=rs.length - i/\L'=L/\ρ 6=.sl b 0 rs.length rs.length/\ρ 7=.int .i64 rs.length/\ρ 8=.int .i64 i/\ρ 3=.int .u32 (za0 rs i))
   ⟨0,Nat.zero_le _,rfl,rfl,by simp only [go_sem],by simp only [go_sem],by simp only [go_sem]<;>rfl,by simp only [go_sem]<;>rfl⟩ ?_
  clear w ρ
  rintro n ρ L' ⟨i,hi,rfl,rfl,j,h,d,l⟩
  by_cases hc:i<rs.length
  ·have e1:((i:Int)<(rs.length:Int))=True:=tO
   have G:((0:Int)<=(i:Int))=True:=tO
   obtain ⟨v,D⟩:=O _ (List.getElem_mem hc)
   have hg:rs[i]?=some [.int .u8 v]:=by rw [List.getElem?_eq_getElem hc,D]
   have p:rs.getD i []=[.int .u8 v]:=by rw [List.getD_eq_getElem?_getD,hg];rfl
   have J:IntKind.i64.wrap ((i:Int)+1)=((i+1:Nat):Int):=wR
   simp only [l,j,h,d,e1,G,I,p,hc,Int.toNat_natCast,go_sem]
   refine zC (fun B ρ L1=>∃k:Nat,k<=8/\B=8 - k/\L1=L'/\ρ 6=.sl b 0 rs.length rs.length/\ρ 7=.int .i64 rs.length/\ρ 8=.int .i64 i/\ρ 16=.int .i64 k/\ρ 3=.int .u32 (z06 k (zdm .u32 (za0 rs i) (IntKind.u32.wrap v))))
    ⟨0,Nat.zero_le _,rfl,rfl,by simp only [j,go_sem],by simp only [h,go_sem],by simp only [d,go_sem],by simp only [go_sem]<;>rfl,by simp only [go_sem]<;>rfl⟩ ?_
   clear j h d l ρ
   rintro B ρ L1 ⟨k,A,rfl,rfl,j,h,d,m,l⟩
   by_cases hk8:k<8
   ·have u:((k:Int)<8)=True:=tO
    have M:IntKind.i64.wrap ((k:Int)+1)=((k+1:Nat):Int):=wR
    simp only [l,j,h,d,m,u,M,go_sem]
    exact ⟨8 - (k+1),od,k+1,od,rfl,rfl,rfl⟩
   ·have u:((k:Int)<8)=False:=fO
    simp only [l,j,h,d,m,u,J,go_sem]
    have A:k=8:=by omega
    subst A
    have s:byteAt rs i=v:=by simp only [byteAt,p]
    exact ⟨rs.length - (i+1),od,i+1,od,rfl,rfl,by simp only [za0,s]⟩
  ·have e1:((i:Int)<(rs.length:Int))=False:=fO
   simp only [l,h,d,e1,go_sem]
   have q:i=rs.length:=by omega
   subst q
   rfl
 ·have T:=zg I
  refine xt1 (fn:=Tryz.f202) (rs:=[.tmp 2]) (c:=zf0) S fun ρ w=>?_
  unfold zf0
  simp only [w,go_sem]
  refine zC (fun n ρ L'=>∃i:Nat,i<=rs.length/\n=rs.length - i/\L'=L/\ρ 6=.sl b 0 rs.length rs.length/\ρ 7=.int .i64 rs.length/\ρ 8=.int .i64 i/\ρ 3=.int .u32 (za0 rs i))
   ⟨0,Nat.zero_le _,rfl,rfl,by simp only [go_sem],by simp only [go_sem],by simp only [go_sem]<;>rfl,by simp only [go_sem]<;>rfl⟩ ?_
  clear w ρ
  rintro n ρ L' ⟨i,hi,rfl,rfl,j,h,d,l⟩
  by_cases hc:i<rs.length
  ·have e1:((i:Int)<(rs.length:Int))=True:=tO
   have G:((0:Int)<=(i:Int))=True:=tO
   obtain ⟨v,D⟩:=O _ (List.getElem_mem hc)
   have hg:rs[i]?=some [.int .u8 v]:=by rw [List.getElem?_eq_getElem hc,D]
   have p:rs.getD i []=[.int .u8 v]:=by rw [List.getD_eq_getElem?_getD,hg];rfl
   have J:IntKind.i64.wrap ((i:Int)+1)=((i+1:Nat):Int):=wR
   simp only [l,j,h,d,e1,G,I,p,hc,Int.toNat_natCast,go_sem]
   refine zC (fun B ρ L1=>∃k:Nat,k<=8/\B=8 - k/\L1=L'/\ρ 6=.sl b 0 rs.length rs.length/\ρ 7=.int .i64 rs.length/\ρ 8=.int .i64 i/\ρ 16=.int .i64 k/\ρ 3=.int .u32 (z06 k (zdm .u32 (za0 rs i) (IntKind.u32.wrap v))))
    ⟨0,Nat.zero_le _,rfl,rfl,by simp only [j,go_sem],by simp only [h,go_sem],by simp only [d,go_sem],by simp only [go_sem]<;>rfl,by simp only [go_sem]<;>rfl⟩ ?_
   clear j h d l ρ
   rintro B ρ L1 ⟨k,A,rfl,rfl,j,h,d,m,l⟩
   by_cases hk8:k<8
   ·have u:((k:Int)<8)=True:=tO
    have M:IntKind.i64.wrap ((k:Int)+1)=((k+1:Nat):Int):=wR
    simp only [l,j,h,d,m,u,M,go_sem]
    exact ⟨8 - (k+1),od,k+1,od,rfl,rfl,rfl⟩
   ·have u:((k:Int)<8)=False:=fO
    simp only [l,j,h,d,m,u,J,go_sem]
    have A:k=8:=by omega
    subst A
    have s:byteAt rs i=v:=by simp only [byteAt,p]
    exact ⟨rs.length - (i+1),od,i+1,od,rfl,rfl,by simp only [za0,s]⟩
  ·have e1:((i:Int)<(rs.length:Int))=False:=fO
   simp only [l,h,d,e1,go_sem]
   have q:i=rs.length:=by omega
   subst q
   rfl
 ·have R:Rows 1 rs=True:=eq_true (fun r Q=>by obtain ⟨n,rfl⟩:=O r Q;rfl)
  refine xt1 (fn:=Tryz.f202) (rs:=[.tmp 2]) (c:=zf0) S fun ρ w=>?_
  unfold zf0
  simp only [w,go_sem]
  refine zC (fun n ρ L'=>∃i:Nat,i<=rs.length/\n=rs.length - i/\L'=L/\ρ 6=.isl rs/\ρ 7=.int .i64 rs.length/\ρ 8=.int .i64 i/\ρ 3=.int .u32 (za0 rs i))
   ⟨0,Nat.zero_le _,rfl,rfl,by simp only [go_sem],by simp only [go_sem],by simp only [go_sem]<;>rfl,by simp only [go_sem]<;>rfl⟩ ?_
  clear w ρ
  rintro n ρ L' ⟨i,hi,rfl,rfl,j,h,d,l⟩
  by_cases hc:i<rs.length
  ·have e1:((i:Int)<(rs.length:Int))=True:=tO
   have G:((0:Int)<=(i:Int))=True:=tO
   obtain ⟨v,D⟩:=O _ (List.getElem_mem hc)
   have hg:rs[i]?=some [.int .u8 v]:=by rw [List.getElem?_eq_getElem hc,D]
   have p:rs.getD i []=[.int .u8 v]:=by rw [List.getD_eq_getElem?_getD,hg];rfl
   have J:IntKind.i64.wrap ((i:Int)+1)=((i+1:Nat):Int):=wR
   simp only [l,j,h,d,e1,G,R,p,hc,Int.toNat_natCast,go_sem]
   refine zC (fun B ρ L1=>∃k:Nat,k<=8/\B=8 - k/\L1=L'/\ρ 6=.isl rs/\ρ 7=.int .i64 rs.length/\ρ 8=.int .i64 i/\ρ 16=.int .i64 k/\ρ 3=.int .u32 (z06 k (zdm .u32 (za0 rs i) (IntKind.u32.wrap v))))
    ⟨0,Nat.zero_le _,rfl,rfl,by simp only [j,go_sem],by simp only [h,go_sem],by simp only [d,go_sem],by simp only [go_sem]<;>rfl,by simp only [go_sem]<;>rfl⟩ ?_
   clear j h d l ρ
   rintro B ρ L1 ⟨k,A,rfl,rfl,j,h,d,m,l⟩
   by_cases hk8:k<8
   ·have u:((k:Int)<8)=True:=tO
    have M:IntKind.i64.wrap ((k:Int)+1)=((k+1:Nat):Int):=wR
    simp only [l,j,h,d,m,u,M,go_sem]
    exact ⟨8 - (k+1),od,k+1,od,rfl,rfl,rfl⟩
   ·have u:((k:Int)<8)=False:=fO
    simp only [l,j,h,d,m,u,J,go_sem]
    have A:k=8:=by omega
    subst A
    have s:byteAt rs i=v:=by simp only [byteAt,p]
    exact ⟨rs.length - (i+1),od,i+1,od,rfl,rfl,by simp only [za0,s]⟩
  ·have e1:((i:Int)<(rs.length:Int))=False:=fO
   simp only [l,h,d,e1,go_sem]
   have q:i=rs.length:=by omega
   subst q
   rfl
theorem zgh (d:E.P=Tryz.prog) {x:IV} {rs:List (List IV)} (b:Bts L x rs):XT E 202 [x] L fun r L'=>(∃n:Int,r=.int .u32 n)/\L'=L:=
 (z8l d b).mono fun r L' h=>⟨⟨_,h.1⟩,h.2⟩
def zlk : XC :=(sO [oV 4 .nsl] (.seq (sO [oM 12 0,oY 13 12,oK 14 .eql 13 0] (cT 14 (sO [oO 15 (.bslice 1 [(.int .u8 0)] 0 []),oM 4 15] .ret) .skip)) (.seq (sO [oM 16 0,oY 17 16,oK 18 .eql 17 1] (cT 18 (sO [oM 19 0,oO 20 (.idxS 1 (.t 19) (oi 0)),oL 21 20,oO 22 (.ex (.appT 5 1) [(.c .nsl),.t 21]),oM 4 22] .ret) .skip)) (sO [oI 5 0] (.seq (sO [oM 23 1,oY 24 23,oK 25 .gtr 24 0] (cT 25 (.seq (sO [oM 26 1,oY 27 26,oM 28 0,oY 29 28,oK 30 .sub 29 1,oO 31 (.bin .quo (oi 9223372036854775807) (.t 30)),oB 32 .geq 27 31] (cT 32 (.ops [oO 33 (.ex (.mkif 9) [(.c (.str [98,121,116,101,115,58,32,74,111,105,110,32,111,117,116,112,117,116,32,108,101,110,103,116,104,32,111,118,101,114,102,108,111,119]))]),oU (.ex .panic [.t 33])]) .skip)) (.ops [oM 34 5,oM 35 1,oY 36 35,oM 37 0,oY 38 37,oK 39 .sub 38 1,oB 40 .mul 36 39,oB 41 .add 34 40,oM 5 41])) .skip)) (.seq (sO [oM 42 0,oY 43 42,oI 44 0] (.block 0 (.loop (sO [oB 45 .lss 44 43] (.seq (cT 45 .skip (.exit 0)) (.seq (.block 1 (sO [oO 46 (.idxS 1 (.t 42) (.t 44)),oL 47 46,oM 7 47] (.seq (sO [oM 48 7,oY 49 48,oM 50 5,oO 51 (.bin .sub (oi 9223372036854775807) (.t 50)),oB 52 .gtr 49 51] (cT 52 (.ops [oO 53 (.ex (.mkif 9) [(.c (.str [98,121,116,101,115,58,32,74,111,105,110,32,111,117,116,112,117,116,32,108,101,110,103,116,104,32,111,118,101,114,102,108,111,119]))]),oU (.ex .panic [.t 53])]) .skip)) (.ops [oM 54 5,oM 55 7,oY 56 55,oB 57 .add 54 56,oM 5 57])))) (.ops [oK 58 .add 44 1,oM 44 58]))))))) (sO [oM 59 5,oC 60 322 [.t 59],oM 61 5,oM 62 5,oO 63 (.ex (.sl3 1) [.t 60,(oi 0),.t 61,.t 62]),oM 8 63] (sO [oM 64 8,oM 65 0,oO 66 (.idxS 1 (.t 65) (oi 0)),oL 67 66,oO 68 (.ex (.copy 1) [.t 64,.t 67]),oM 9 68] (.seq (sO [oM 69 0,oO 70 (.slice 1 (.t 69) (some (oi 1)) none),oY 71 70,oI 72 0] (.block 2 (.loop (sO [oB 73 .lss 72 71] (.seq (cT 73 .skip (.exit 2)) (.seq (.block 3 (sO [oO 74 (.idxS 1 (.t 70) (.t 72)),oL 75 74,oM 11 75] (sO [oM 76 9,oM 77 8,oM 78 9,oO 79 (.slice 1 (.t 77) (some (.t 78)) none),oM 80 1,oO 81 (.ex (.copy 1) [.t 79,.t 80]),oB 82 .add 76 81,oM 9 82] (.ops [oM 83 9,oM 84 8,oM 85 9,oO 86 (.slice 1 (.t 84) (some (.t 85)) none),oM 87 11,oO 88 (.ex (.copy 1) [.t 86,.t 87]),oB 89 .add 83 88,oM 9 89])))) (.ops [oK 90 .add 72 1,oM 72 90]))))))) (sO [oM 91 8,oM 4 91] .ret))))))))))
def zjG : XC :=(sO [oV 2 .nsl] (sO [oM 3 0,oO 4 (.bin .shr (.t 3) (.c (.int .u64 24))),oO 5 (.cvInt .u8 (.t 4)),oM 6 0,oO 7 (.bin .shr (.t 6) (.c (.int .u64 16))),oO 8 (.cvInt .u8 (.t 7)),oM 9 0,oO 10 (.bin .shr (.t 9) (.c (.int .u64 8))),oO 11 (.cvInt .u8 (.t 10)),oM 12 0,oO 13 (.cvInt .u8 (.t 12)),oO 14 (.bslice 1 [(.int .u8 0)] 4 [(0,(.t 5)),(1,(.t 8)),(2,(.t 11)),(3,(.t 13))]),oM 2 14] .ret))
def zmi : XC :=(sO [oV 2 .nsl] (sO [oM 3 0,oY 4 3,oO 5 (.cvInt .u32 (.t 4)),oC 6 327 [.t 5],oM 7 0,oC 8 202 [.t 7],oC 9 327 [.t 8],oM 10 0,oO 11 (.bslice 1 [.nsl] 3 [(0,(.t 6)),(1,(.t 9)),(2,(.t 10))]),oC 12 326 [.t 11,(.c .nsl)],oM 2 12] .ret))
theorem V8 {l r:List (List IV)} {k:Nat} {p:List (List IV)} (d:l.take k=p) (h:p.length=k) (b:k+r.length<=l.length):(splice l k r).take (k+r.length)=p++r/\(splice l k r).length=l.length:=by
 subst d
 refine ⟨?_,vk b⟩
 unfold splice
 rw [List.take_append_of_le_length (by simp;omega),List.take_of_length_le (by simp;omega)]
theorem zfr (b:E.P=Tryz.prog) (n:Nat) (d:n<=281474976710656) {K:IV->List Blk->Prop} (h:∀rows:List (List IV),rows.length=n->zA rows->K (.sl L.length 0 n n) (L++[.tcells 5 1 rows])):XTX E 322 [.int .i64 n] L K:=by
 refine zeq (fn:=Tryz.f322) (t:=53) (ps:=#[3]) (by rw [b];rfl) (by decide) (by rfl) (by kernel_rfl) (by kernel_rfl) (by rw [b];kernel_rfl) n d h
theorem zbt (hP : E.P = Tryz.prog) {b : Nat} {p0 p1 p2 : IV} {r0 r1 r2 : List (List IV)} (hb : L[b]? = some (.cells 1 [[p0], [p1], [p2]])) (l0 : lenOf p0 = some r0.length) (l1 : lenOf p1 = some r1.length) (l2 : lenOf p2 = some r2.length)
    (x0 : ∀ L', Keep none' L L' → rowsOf L' p0 = some r0) (x1 : ∀ L', Keep none' L L' → rowsOf L' p1 = some r1) (x2 : ∀ L', Keep none' L L' → rowsOf L' p2 = some r2) (c0 : yz 1 r0) (c1 : yz 1 r1) (c2 : yz 1 r2)
    (hN : r0.length + r1.length + r2.length ≤ 70368744177664) :
    XT E 326 [.sl b 0 3 3, .nsl] L fun r L' => r = .sl L.length 0 (r0 ++ r1 ++ r2).length (r0 ++ r1 ++ r2).length ∧ L' = L ++ [.tcells 5 1 (r0 ++ r1 ++ r2)] := by
  have lb := zg hb
  have w1 : IntKind.i64.wrap (0 + (r0.length : Int)) = (r0.length : Int) := by rw [wrap64 (by omega) (by omega)]; omega
  have w2 : IntKind.i64.wrap ((r0.length : Int) + (r1.length : Int)) = ((r0.length + r1.length : Nat) : Int) := by rw [wrap64 (by omega) (by omega)]; omega
  have w3 : IntKind.i64.wrap (((r0.length + r1.length : Nat) : Int) + (r2.length : Int)) = ((r0.length + r1.length + r2.length : Nat) : Int) := by rw [wrap64 (by omega) (by omega)]; omega
  have v1 : IntKind.i64.wrap (9223372036854775807 - 0) = 9223372036854775807 := by decide
  have v2 : IntKind.i64.wrap (9223372036854775807 - (r0.length : Int)) = 9223372036854775807 - (r0.length : Int) := by rw [wrap64 (by omega) (by omega)]
  have v3 : IntKind.i64.wrap (9223372036854775807 - ((r0.length + r1.length : Nat) : Int)) = 9223372036854775807 - ((r0.length + r1.length : Nat) : Int) := by rw [wrap64 (by omega) (by omega)]
  have g1 : ((9223372036854775807 : Int) < (r0.length : Int)) = False := eq_false (by omega)
  have g2 : (9223372036854775807 - (r0.length : Int) < (r1.length : Int)) = False := eq_false (by omega)
  have g3 : (9223372036854775807 - ((r0.length + r1.length : Nat) : Int) < (r2.length : Int)) = False := eq_false (by omega)
  refine zI (n := Tryz.f326.ntmps) (rs := [.tmp 4]) (c := zlk) (by rw [hP]; rfl) (by rw [hP]; kernel_rfl) (by decide) (Nat.le_of_ble_eq_true rfl) ?_
  generalize hρ : entry _ = ρ
  have h0 : ρ 0 = .sl b 0 3 3 := by rw [← hρ]; rfl
  have h1 : ρ 1 = .nsl := by rw [← hρ]; rfl
  clear hρ
  unfold zlk
  simp (maxDischargeDepth := 12) only [decide_false, h0, h1, go_sem, Nat.reduceEqDiff, reduceIte, Int.reduceEq, Int.reduceLT]
  refine zC (fun n ρ L' => L' = L ∧ ρ 0 = .sl b 0 3 3 ∧ ρ 1 = .nsl ∧ ρ 42 = .sl b 0 3 3 ∧ ρ 43 = .int .i64 3 ∧ ((n = 3 ∧ ρ 44 = .int .i64 0 ∧ ρ 5 = .int .i64 0) ∨ (n = 2 ∧ ρ 44 = .int .i64 1 ∧ ρ 5 = .int .i64 r0.length) ∨
    (n = 1 ∧ ρ 44 = .int .i64 2 ∧ ρ 5 = .int .i64 (r0.length + r1.length : Nat)) ∨ (n = 0 ∧ ρ 44 = .int .i64 3 ∧ ρ 5 = .int .i64 (r0.length + r1.length + r2.length : Nat)))) (n := 3)
    ⟨rfl, by simp (maxDischargeDepth := 12) only [h0, go_sem, Nat.reduceEqDiff, reduceIte], by simp (maxDischargeDepth := 12) only [h1, go_sem, Nat.reduceEqDiff, reduceIte], by simp (maxDischargeDepth := 12) only [go_sem, Nat.reduceEqDiff, reduceIte], by simp (maxDischargeDepth := 12) only [go_sem, Nat.reduceEqDiff, reduceIte], .inl ⟨rfl, by simp (maxDischargeDepth := 12) only [go_sem, Nat.reduceEqDiff, reduceIte], by simp (maxDischargeDepth := 12) only [go_sem, Nat.reduceEqDiff, reduceIte]⟩⟩ ?_
  clear h0 h1 ρ
  rintro n ρ L' ⟨rfl, h0, h1, h42, h43, ⟨rfl, h44, h5⟩ | ⟨rfl, h44, h5⟩ | ⟨rfl, h44, h5⟩ | ⟨rfl, h44, h5⟩⟩
  · simp (maxDischargeDepth := 12) only [decide_true, decide_false, YF, h0, h1, hb, zt l0, h42, h43, h44, h5, g1, w1, go_sem, Nat.reduceEqDiff, reduceIte, Int.reduceLT, Int.reduceLE, Nat.reduceAdd, Int.reduceToNat, Int.reduceSub, Int.reduceAdd, Int.reduceNeg]
    exact ⟨2, by omega, .inr (.inl rfl)⟩
  · simp (maxDischargeDepth := 12) only [decide_true, decide_false, YF, h0, h1, hb, zt l1, h42, h43, h44, h5, v2, g2, w2, go_sem, Nat.reduceEqDiff, reduceIte, Int.reduceLT, Int.reduceLE, Nat.reduceAdd, Nat.reduceLT, Int.reduceToNat, Int.reduceAdd, Int.reduceNeg]
    exact ⟨1, by omega, .inr (.inr (.inl rfl))⟩
  · simp (maxDischargeDepth := 12) only [decide_true, decide_false, YF, h0, h1, hb, zt l2, h42, h43, h44, h5, v3, g3, w3, go_sem, Nat.reduceEqDiff, reduceIte, Int.reduceLT, Int.reduceLE, Nat.reduceAdd, Nat.reduceLT, Int.reduceToNat, Int.reduceAdd, Int.reduceNeg]
    exact ⟨0, by omega, .inr (.inr (.inr rfl))⟩
  · obtain ⟨N, hNe⟩ : ∃ N, r0.length + r1.length + r2.length = N := ⟨_, rfl⟩
    clear v1 v2 v3 g1 g2 g3
    rw [hNe] at h5
    simp (maxDischargeDepth := 12) only [decide_false, h43, h44, h5, go_sem, Nat.reduceEqDiff, reduceIte, Int.reduceLT]
    refine zeM (zfr hP N (by omega) ?_)
    intro rows hrl hbr
    have n0 : ((0 : Int) ≤ (N : Int)) = True := eq_true (by omega)
    simp (maxDischargeDepth := 12) only [decide_false, h0, hb, lb, h5, n0, Yk, Int.le_refl, Int.sub_zero, Int.toNat_natCast, Nat.add_zero, go_sem, Nat.reduceEqDiff, reduceIte, Int.reduceLT, Int.reduceLE, Nat.reduceAdd, Nat.reduceLeDiff, Int.reduceToNat]
    refine z9I (ty := 5) (rows := rows) (x0 _ (by (repeat' first | exact Keep.refl | apply Keep.app | apply Keep.set) <;> (intro hh; first | rfl | (exfalso; first | omega | (simp only [List.length_append, List.length_set, List.length_cons, List.length_nil] at hh; omega))))) (by simp (maxDischargeDepth := 12) only [go_sem]) c0 (by omega) (by omega) ?_
    obtain ⟨s1, s2⟩ := V8 (l := rows) (r := r0) (k := 0) (p := []) (by simp) rfl (by omega)
    simp only [Nat.zero_add, List.nil_append] at s1
    generalize splice rows 0 r0 = M at *
    simp (maxDischargeDepth := 12) only [hb, lb, go_sem]
    refine zC (fun n ρ L1 => ρ 1 = .nsl ∧ ρ 70 = .sl b 1 2 2 ∧ ρ 71 = .int .i64 2 ∧ ρ 8 = .sl L'.length 0 N N ∧ ∃ M, L1 = L' ++ [.tcells 5 1 M] ∧ M.length = N ∧
      ((n = 2 ∧ ρ 72 = .int .i64 0 ∧ ρ 9 = .int .i64 r0.length ∧ M.take r0.length = r0) ∨
       (n = 1 ∧ ρ 72 = .int .i64 1 ∧ ρ 9 = .int .i64 (r0.length + r1.length : Nat) ∧ M.take (r0.length + r1.length) = r0 ++ r1) ∨
       (n = 0 ∧ ρ 72 = .int .i64 2 ∧ ρ 9 = .int .i64 N ∧ M.take N = r0 ++ r1 ++ r2))) (n := 2)
      ⟨by simp (maxDischargeDepth := 12) only [h1, go_sem, Nat.reduceEqDiff, reduceIte], by simp (maxDischargeDepth := 12) only [go_sem, Nat.reduceEqDiff, reduceIte], by simp (maxDischargeDepth := 12) only [go_sem, Nat.reduceEqDiff, reduceIte] <;> rfl, by simp (maxDischargeDepth := 12) only [go_sem, Nat.reduceEqDiff, reduceIte], M, rfl, by omega, .inl ⟨rfl, by simp (maxDischargeDepth := 12) only [go_sem, Nat.reduceEqDiff, reduceIte], by simp (maxDischargeDepth := 12) only [go_sem, Nat.reduceEqDiff, reduceIte], s1⟩⟩ ?_
    clear h0 h1 h42 h43 h44 h5 s1 s2 hbr hrl M ρ rows
    rintro n ρ L1 ⟨h1, h70, h71, h8, M, rfl, hML, ⟨rfl, h72, h9, hT⟩ | ⟨rfl, h72, h9, hT⟩ | ⟨rfl, h72, h9, hT⟩⟩
    · have q1 : ((r0.length : Int) + 0) = r0.length := by omega
      have q2 : IntKind.i64.wrap ((r0.length : Int) + 0) = r0.length := by rw [wrap64 (by omega) (by omega)]; omega
      have q3 : r0.length ≤ N := by omega
      have q4 : ((0 : Int) ≤ (r0.length : Int)) = True := eq_true (by omega)
      simp (maxDischargeDepth := 12) only [decide_true, h1, h70, h71, h8, h72, h9, hb, lb, Yk, q2, q3, q4, Int.toNat_natCast, Nat.zero_add, Nat.le_refl, go_sem, Nat.reduceEqDiff, reduceIte, Int.reduceLT, Int.reduceLE, Nat.reduceAdd, Nat.reduceLT, Int.reduceToNat]
      refine z9I (ty := 5) (rows := M) (x1 _ (by (repeat' first | exact Keep.refl | apply Keep.app | apply Keep.set) <;> (intro hh; first | rfl | (exfalso; first | omega | (simp only [List.length_append, List.length_set, List.length_cons, List.length_nil] at hh; omega))))) (by simp (maxDischargeDepth := 12) only [go_sem]) c1 (by omega) (by omega) ?_
      obtain ⟨s1, s2⟩ := V8 hT rfl (show r0.length + r1.length ≤ M.length by omega)
      generalize splice M r0.length r1 = M' at *
      simp (maxDischargeDepth := 12) only [decide_true, YF, h1, h70, h71, h8, h72, h9, w2, go_sem, Nat.reduceEqDiff, reduceIte, Int.reduceLT, Int.reduceLE, Nat.reduceAdd, Int.reduceToNat, Int.reduceAdd, Int.reduceNeg]
      exact ⟨1, by omega, M', rfl, by omega, .inr (.inl ⟨rfl, s1⟩)⟩
    · have q2 : IntKind.i64.wrap (((r0.length + r1.length : Nat) : Int) + 0) = (r0.length + r1.length : Nat) := by rw [wrap64 (by omega) (by omega)]; omega
      have q3 : r0.length + r1.length ≤ N := by omega
      have q4 : ((0 : Int) ≤ ((r0.length + r1.length : Nat) : Int)) = True := eq_true (by omega)
      simp (maxDischargeDepth := 12) only [decide_true, h1, h70, h71, h8, h72, h9, hb, lb, Yk, q2, q3, q4, Int.toNat_natCast, Nat.zero_add, Nat.le_refl, go_sem, Nat.reduceEqDiff, reduceIte, Int.reduceLT, Int.reduceLE, Nat.reduceAdd, Nat.reduceLT, Int.reduceToNat]
      refine z9I (ty := 5) (rows := M) (x2 _ (by (repeat' first | exact Keep.refl | apply Keep.app | apply Keep.set) <;> (intro hh; first | rfl | (exfalso; first | omega | (simp only [List.length_append, List.length_set, List.length_cons, List.length_nil] at hh; omega))))) (by simp (maxDischargeDepth := 12) only [go_sem]) c2 (by omega) (by omega) ?_
      obtain ⟨s1, s2⟩ := V8 hT (by simp) (show r0.length + r1.length + r2.length ≤ M.length by omega)
      generalize splice M (r0.length + r1.length) r2 = M' at *
      simp (maxDischargeDepth := 12) only [decide_true, YF, h1, h70, h71, h8, h72, h9, w3, go_sem, Nat.reduceEqDiff, reduceIte, Int.reduceLT, Int.reduceLE, Nat.reduceAdd, Int.reduceToNat, Int.reduceAdd, Int.reduceNeg]
      rw [hNe] at s1
      rw [hNe]
      exact ⟨0, by omega, M', rfl, by omega, .inr (.inr ⟨rfl, rfl, s1⟩)⟩
    · have hT' : M = r0 ++ r1 ++ r2 := by rw [← hT, List.take_of_length_le (by omega)]
      simp (maxDischargeDepth := 12) only [decide_false, h71, h8, h72, go_sem, Nat.reduceEqDiff, reduceIte, Int.reduceLT]
      subst hT'
      rw [← hML]
      exact ⟨rfl, rfl⟩
theorem Bts.keep {F:Nat->Prop} {L':List Blk} {x:IV} {rs:List (List IV)} (h:Bts L x rs) (j:Keep F L L') (l:∀b o n c,x=.sl b o n c->¬F b):Bts L' x rs:=by
 obtain ⟨⟨b,rfl,p⟩ | rfl,m,d⟩:=h
 ·exact ⟨.inl ⟨b,rfl,p.imp (fun h=>j.get h (l _ _ _ _ rfl)) (fun h=>j.get h (l _ _ _ _ rfl))⟩,m,d⟩
 ·exact ⟨.inr rfl,m,d⟩
theorem Bts.keep0 {L':List Blk} {x:IV} {rs:List (List IV)} (h:Bts L x rs) (b:Keep none' L L'):Bts L' x rs:=h.keep b fun _ _ _ _ _ h=>h
theorem Bts.len {x:IV} {rs:List (List IV)} (h:Bts L x rs):lenOf x=some rs.length:=by
 obtain ⟨⟨b,rfl,j⟩ | rfl,l,d⟩:=h<;>rfl
theorem zA.rowsC {rs:List (List IV)} (h:zA rs):yz 1 rs:=fun r b=>by
 obtain ⟨n,rfl⟩:=h r b
 exact ⟨rfl,rfl⟩
theorem Bts.rows {x:IV} {rs:List (List IV)} (h:Bts L x rs):rowsOf L x=some rs:=by
 obtain ⟨⟨b,rfl,d | d⟩ | rfl,l,j⟩:=h
 ·simp [rowsOf,d]
 ·simp [rowsOf,d]
 ·simp [rowsOf]
theorem Bts.mk' {b:Nat} {rs:List (List IV)} (h:L[b]?=some (.cells 1 rs)\/L[b]?=some (.tcells 5 1 rs)) (j:zA rs) (d:rs.length<=70368744177664):Bts L (.sl b 0 rs.length rs.length) rs:=⟨.inl ⟨b,rfl,h⟩,j,d⟩
theorem Bts.cell {x:IV} {rs:List (List IV)} (h:Bts L x rs):cellsOf x=[x]:=by
 obtain ⟨⟨b,rfl,_⟩ | rfl,_⟩:=h<;>rfl
theorem zA.app {a b:List (List IV)} (h:zA a) (d:zA b):zA (a++b):=fun r j=>(List.mem_append.1 j).elim (h r) (d r)
def z9n (L L':List Blk) (r:IV) (n:Nat):Prop:=∃g rows,r=.sl g 0 n n/\rows.length=n/\L.length<=g/\L'[g]?=some (.tcells 5 1 rows)/\zA rows
theorem ZM {M:List Blk} {s n:Nat} {A:List (List IV)} (h:M[s]?=some (.cells 1 A)) (b:A.length=n):rowsOf M (.sl s 0 n n)=some A:=by subst b;simp [rowsOf,h]
theorem wL {M:List Blk} {s n ty:Nat} {A:List (List IV)} (h:M[s]?=some (.tcells ty 1 A)) (b:A.length=n):rowsOf M (.sl s 0 n n)=some A:=by subst b;simp [rowsOf,h]
theorem z8X (h:E.P=Tryz.prog) (n:Int):XT E 327 [.int .u32 n] L fun r L'=>∃a b c d:Int,r=.sl L.length 0 4 4/\L'=L++[.cells 1 [[.int .u8 a],[.int .u8 b],[.int .u8 c],[.int .u8 d]]]:=by
 refine xt1 (fn:=Tryz.f327) (rs:=[.tmp 2]) (c:=zjG) h fun ρ j=>?_
 unfold zjG
 simp only [j,go_sem]
 exact ⟨_,_,_,_,rfl⟩
theorem z6N (m:E.P=Tryz.prog) {x:IV} {rs:List (List IV)} (d:Bts L x rs) (U:rs.length+8<=70368744177664):XT E 289 [x] L fun r L'=>z9n L L' r (rs.length+8)/\Keep none' L L':=by
 refine xt1 (fn:=Tryz.f289) (rs:=[.tmp 2]) (c:=zmi) m fun ρ v=>?_
 unfold zmi
 simp (maxDischargeDepth:=12) only [v,zt d.len,go_sem]
 have T:cellsOf x=[x]:=d.cell
 refine zh (z8X (E:=E.noPan) m _) ?_
 rintro r L1 ⟨O,Q,G,S,rfl,rfl⟩
 simp (maxDischargeDepth:=12) only [v,go_sem]
 refine zh (zgh (E:=E.noPan) m (d.keep0 kP)) ?_
 rintro r L1 ⟨⟨n,rfl⟩,rfl⟩
 simp (maxDischargeDepth:=12) only [go_sem]
 refine zh (z8X (E:=E.noPan) m _) ?_
 rintro r L1 ⟨R,M,J,I,rfl,rfl⟩
 simp (maxDischargeDepth:=12) only [v,T,go_sem]
 have ha:zA [[.int .u8 O],[.int .u8 Q],[.int .u8 G],[.int .u8 S]]:=by intro r j;simp at j;rcases j with rfl | rfl | rfl | rfl<;>exact ⟨_,rfl⟩
 have D:zA [[.int .u8 R],[.int .u8 M],[.int .u8 J],[.int .u8 I]]:=by intro r j;simp at j;rcases j with rfl | rfl | rfl | rfl<;>exact ⟨_,rfl⟩
 obtain ⟨A,q⟩:∃A:List (List IV),A=[[.int .u8 O],[.int .u8 Q],[.int .u8 G],[.int .u8 S]]:=⟨_,rfl⟩
 obtain ⟨B,s⟩:∃B:List (List IV),B=[[.int .u8 R],[.int .u8 M],[.int .u8 J],[.int .u8 I]]:=⟨_,rfl⟩
 have u:A.length=4:=by rw [q];rfl
 have w:B.length=4:=by rw [s];rfl
 rw [<-q] at ha
 rw [<-s] at D
 rw [<-q,<-s]
 have p:zA rs:=d.2.1
 refine zh (zbt (E:=E.noPan) (p0:=.sl L.length 0 4 4) (p1:=.sl (L++[Blk.cells 1 A]).length 0 4 4) (p2:=x) (r0:=A) (r1:=B) (r2:=rs) m (by simp (maxDischargeDepth:=12) only [go_sem]) (by rw [u];rfl) (by rw [w];rfl) d.len (fun L' l=>ZM (l.get (by simp (maxDischargeDepth:=12) only [go_sem]) fun h=>h) u) (fun L' l=>ZM (l.get (by simp (maxDischargeDepth:=12) only [go_sem]) fun h=>h) w)
  (fun L' l=>((d.keep0 kP).keep0 l).rows) ha.rowsC D.rowsC p.rowsC od) ?_
 rintro r L1 ⟨rfl,rfl⟩
 simp (maxDischargeDepth:=12) only [go_sem]
 have b:(A++B++rs).length=rs.length+8:=by simp [u,w];omega
 rw [b]
 exact ⟨⟨_,_,rfl,b,by simp<;>omega,by simp (maxDischargeDepth:=12) only [go_sem],(ha.app D).app p⟩,kP⟩
def zlb : XC :=(sO [oV 4 .nsl] (sO [oM 9 0,oO 10 (.bslice 1 [(.int .u8 0)] 1 [(0,(.t 9))]),oM 5 10] (.seq (sO [oM 11 1,oY 12 11,oI 13 0] (.block 0 (.loop (sO [oB 14 .lss 13 12] (.seq (cT 14 .skip (.exit 0)) (.seq (.block 1 (sO [oO 15 (.idxS 1 (.t 11) (.t 13)),oL 16 15,oM 7 16] (sO [oI 8 56] (.block 2 (.loop (.seq (sO [oM 17 8,oK 18 .geq 17 0] (cT 18 .skip (.exit 2))) (.seq (.block 3 (.ops [oM 21 5,oM 22 7,oM 23 8,oB 24 .shr 22 23,oO 25 (.cvInt .u8 (.t 24)),oO 26 (.bslice 1 [(.int .u8 0)] 1 [(0,(.t 25))]),oO 27 (.ex (.appT 5 1) [.t 21,.t 26]),oM 5 27])) (.ops [oM 19 8,oK 20 .sub 19 8,oM 8 20])))))))) (.ops [oK 28 .add 13 1,oM 13 28]))))))) (sO [oM 29 5,oC 30 289 [.t 29],oM 4 30] .ret))))
def zjT : XC :=(sO [oV 4 .nsl] (sO [oM 5 0,oO 6 (.bslice 1 [(.int .i64 0)] 1 [(0,(.t 5))]),oC 7 288 [(.c (.int .u8 114)),.t 6],oM 8 1,oC 9 289 [.t 8],oO 10 (.ex (.appT 5 1) [.t 7,.t 9]),oM 4 10] .ret))
def zgf (L0 L:List Blk) (v:IV) (M:List (List IV)):Prop:=∃t,v=.sl t 0 M.length M.length/\L0.length<=t/\(L[t]?=some (.cells 1 M)\/L[t]?=some (.tcells 5 1 M))/\zA M
theorem z9w (hP:E.P=Tryz.prog) {k:Int} {b:Nat} {l:List (List IV)} (hb:L[b]?=some (.cells 1 l)) (hl:∀r∈l,∃v:Int,r=[.int .i64 v]) (hN:l.length<=100) :
  XT E 288 [.int .u8 k,.sl b 0 l.length l.length] L fun r L'=>z9n L L' r (8*l.length+9)/\Keep none' L L':=by
 have lb:=zg hb
 refine xt2 (fn:=Tryz.f288) (rs:=[.tmp 4]) (c:=zlb) hP fun ρ h0 h1=>?_
 unfold zlb
 simp only [h0,h1,go_sem]
 refine zC (fun n ρ L1=>∃i:Nat,i<=l.length/\n=l.length - i/\Keep none' L L1/\ρ 11=.sl b 0 l.length l.length/\ρ 12=.int .i64 l.length/\ρ 13=.int .i64 i/\∃M,M.length=8*i+1/\zgf L L1 (ρ 5) M)
  ⟨0,Nat.zero_le _,rfl,kP,by simp only [go_sem],by simp only [go_sem],by simp only [go_sem]<;>rfl,[[.int .u8 k]],rfl,L.length,by simp only [go_sem]<;>rfl,Nat.le_refl _,.inl (by simp only [go_sem]),fun r B=>by simp at B;exact ⟨_,B⟩⟩ ?_
 clear h0 h1 ρ
 rintro n ρ L1 ⟨i,hi,rfl,q,p,m,d,M,O,t,A,J,s,w⟩
 have u:L1[b]?=some (.cells 1 l):=q.get hb fun h=>h
 have V:=zg u
 by_cases hc:i<l.length
 ·have e1:((i:Int)<(l.length:Int))=True:=tO
  have e0:((0:Int)<=(i:Int))=True:=tO
  obtain ⟨v,hv⟩:=hl _ (List.getElem_mem hc)
  have hg:l[i]?=some [.int .i64 v]:=by rw [List.getElem?_eq_getElem hc,hv]
  have Y:l.getD i []=[.int .i64 v]:=by rw [List.getD_eq_getElem?_getD,hg];rfl
  have hw:IntKind.i64.wrap ((i:Int)+1)=((i+1:Nat):Int):=wR
  simp only [p,m,d,e1,e0,u,Y,hc,Int.toNat_natCast,go_sem]
  refine zC (fun n' ρ L2=>∃j:Nat,j<=8/\n'=8 - j/\Keep none' L L2/\ρ 11=.sl b 0 l.length l.length/\ρ 12=.int .i64 l.length/\ρ 13=.int .i64 i/\ρ 7=.int .i64 v/\ρ 8=.int .i64 (56 - 8*(j:Int))/\∃M,M.length=8*i+1+j/\zgf L L2 (ρ 5) M)
   ⟨0,Nat.zero_le _,rfl,q,by simp only [p,go_sem],by simp only [m,go_sem],by simp only [d,go_sem],by simp only [go_sem]<;>rfl,by simp only [go_sem]<;>rfl,M,O,t,by simp only [A,go_sem],J,s,w⟩ ?_
  clear A p m d q s u V w O J t M ρ
  rintro n' ρ L2 ⟨j,hj,rfl,q,p,m,d,h7,Z,M,O,t,A,J,s,w⟩
  by_cases hj8:j<8
  ·have T:((0:Int)<=56 - 8*(j:Int))=True:=tO
   have fw:IntKind.i64.wrap (56 - 8*(j:Int) - 8)=56 - 8*((j+1:Nat):Int):=wR
   have tl:t<L2.length:=s.elim zf zf
   simp only [A,h7,Z,p,m,d,T,fw,go_sem]
   generalize IntKind.u8.wrap (zav IntKind.i64 v (56 - 8*(j:Int)))=c
   have G:zA [[IV.int .u8 c]]:=fun r B=>by simp at B;exact ⟨_,B⟩
   refine Wy (rows:=M) (rs:=[[.int .u8 c]]) rfl (s.imp Zu Zu) rfl (ZM (by simp only [go_sem]) rfl) G.rowsC (by simp) (by simp;omega) ?_
   intro kb S
   refine ⟨8 - (j+1),od,j+1,od,rfl,?_,rfl,M++[[.int .u8 c]],by simp;omega,(L2++[Blk.cells 1 [[.int .u8 c]]]).length,by simp,by have:=q.1;simp;omega,?_,w.app G⟩
   ·exact Keep.app (Keep.set (Keep.app q) fun h=>absurd h od)
   ·rcases S with rfl | rfl
    ·left;simp only [go_sem]
    ·right;simp only [go_sem]
  ·have T:((0:Int)<=56 - 8*(j:Int))=False:=fO
   simp only [A,Z,p,m,d,T,hw,go_sem]
   exact ⟨l.length - (i+1),od,i+1,od,rfl,q,rfl,M,od,t,rfl,J,s,w⟩
 ·have e1:((i:Int)<(l.length:Int))=False:=fO
  simp only [A,m,d,e1,go_sem]
  refine zh (z6N (E:=E.noPan) hP (rs:=M) (.mk' s w od) od) ?_
  rintro r L2 ⟨⟨g,rows,rfl,D,hgl,X,U⟩,Q⟩
  simp only [go_sem]
  have R:i=l.length:=by omega
  subst R
  have I:M.length+8=8*l.length+9:=by omega
  rw [I] at D ⊢
  exact ⟨⟨g,rows,rfl,D,Nat.le_trans q.1 hgl,X,U⟩,q.trans Q fun _ _ h=>h⟩
theorem z3M (B:E.P=Tryz.prog) {n:Int} {x:IV} {rs:List (List IV)} (O:Bts L x rs) (Q:rs.length+100<=70368744177664):XT E 225 [.int .i64 n,x] L fun r L'=>z9n L L' r (rs.length+25)/\Keep none' L L':=by
 refine xt2 (fn:=Tryz.f225) (rs:=[.tmp 4]) (c:=zjT) B fun ρ I h1=>?_
 unfold zjT
 simp only [I,go_sem]
 refine zh (z9w (E:=E.noPan) B (l:=[[.int .i64 n]]) (by simp only [go_sem]) (by simp) (by simp)) ?_
 rintro r L1 ⟨⟨g,M,rfl,v,hgl,u,A⟩,D⟩
 have p:Keep none' L L1:=Keep.trans (Keep.app Keep.refl) D fun _ _ h=>h
 simp only [h1,go_sem]
 refine zh (z6N (E:=E.noPan) B (O.keep0 p) od) ?_
 rintro r L2 ⟨⟨R,M',rfl,b,G,s,d⟩,j⟩
 have q:=j.get u fun h=>h
 have J:=zf u
 simp only [go_sem]
 refine vz (rows:=M) (rs:=M') rfl q v (wL s b) d.rowsC (fun h=>by subst h;simp at b) (by rw [b];simp;omega) ?_
 have w:M.length+M'.length=rs.length+25:=by rw [v,b];simp;omega
 have m:8*1+9+M'.length=rs.length+25:=by rw [b];omega
 rw [m]
 refine ⟨⟨L2.length,M++M',?_,by rw [lla];exact w,Nat.le_trans p.1 j.1,?_,A.app d⟩,?_⟩
 ·rfl
 ·have e1:(L2.set g Blk.dead).length=L2.length:=lls
  simp only [e1,go_sem]
 ·refine Keep.app (Keep.set (p.trans j fun _ _ h=>h) fun h=>absurd h ?_)
  have:=(by simpa using hgl:L.length+1<=g)
  omega
def zlq : XC :=(sO [oI 4 0] (.seq (sO [oM 6 0,oY 7 6,oI 8 0] (.block 0 (.loop (sO [oB 9 .lss 8 7] (.seq (cT 9 .skip (.exit 0)) (.seq (.block 1 (sO [oM 10 8,oM 5 10] (sO [oM 11 1,oM 12 0,oM 13 5,oO 14 (.idxS 2 (.t 12) (.t 13)),oO 15 (.loadN 2 (.t 14)),oO 16 (.call (.t 11) [.t 15])] (cT 16 (sO [oM 17 5,oM 4 17] .ret) .skip)))) (.ops [oK 18 .add 8 1,oM 8 18]))))))) (sO [oO 4 (.mov (.c (.int .i64 (-1))))] .ret)))
def zmu : XC :=(sO [oV 4 .nsl] (sO [oM 8 0,oM 9 1,oC 10 369 [.t 8,.t 9],oM 5 10] (.seq (sO [oM 11 5,oO 12 (.bin .eql (.t 11) (.c (.int .i64 (-1))))] (cT 12 (sO [oM 13 0,oM 4 13] .ret) .skip)) (.seq (sO [oM 14 5,oK 15 .add 14 1,oM 6 15] (.block 0 (.loop (.seq (sO [oM 16 6,oM 17 0,oY 18 17,oB 19 .lss 16 18] (cT 19 .skip (.exit 0))) (.seq (.block 1 (sO [oM 22 0,oM 23 6,oO 24 (.idxS 2 (.t 22) (.t 23)),oO 25 (.loadN 2 (.t 24)),oO 7 (.alloc [(.int .i64 0),(.int .i64 0)]),oU (.store 2 (.t 7) (.t 25))] (sO [oM 26 1,oO 27 (.loadN 2 (.t 7)),oO 28 (.call (.t 26) [.t 27]),oO 29 (.un .not (.t 28))] (cT 29 (sO [oM 30 0,oM 31 5,oO 32 (.loadN 2 (.t 7)),oO 33 (.idxS 2 (.t 30) (.t 31)),oU (.store 2 (.t 33) (.t 32))] (.ops [oM 34 5,oK 35 .add 34 1,oM 5 35])) .skip)))) (.ops [oM 20 6,oK 21 .add 20 1,oM 6 21])))))) (sO [oM 36 0,oM 37 5,oO 38 (.slice 2 (.t 36) (some (.t 37)) none),oU (.ex (.clr [(.int .i64 0),(.int .i64 0)]) [.t 38])] (sO [oM 39 0,oM 40 5,oO 41 (.slice 2 (.t 39) none (some (.t 40))),oM 4 41] .ret))))))
def zmy : XC :=(sO [oO 4 (.alloc [(.int .i64 0)]),oI 5 0] (sO [oM 8 0,oN 9 8,oF 10 1 9,oL 11 10,oO 6 (.alloc [(.int .i64 0)]),oS 6 11] (sO [oM 12 0,oN 13 12,oF 14 1 13,oL 15 14,oK 16 .add 15 1,oN 17 12,oF 18 1 17,oS 18 16] (sO [oO 7 (.alloc [(.bool false)]),oU (.store 1 (.t 7) (.c (.bool false)))] (sO [oM 19 0,oM 20 0,oN 21 20,oF 22 2 21,oL 23 22,oO 24 (.mkfn (.func 355) [] [.t 6,.t 7,.t 4]),oC 25 354 [.t 23,.t 24],oN 26 19,oF 27 2 26,oS 27 25] (.seq (.block 0 (.seq (.draw [oM 29 0,oN 30 29,oF 31 3 30,oL 32 31,oM 33 32,oG 34 33 true (.load1 (.t 6)),oG 35 33 true (.mov (.t 0)),oG 36 33 true (.nilck (.t 35)),oG 37 33 true (.fldA 4 (.t 36)),oG 38 33 true (.load1 (.t 37)),oG 39 33 true (.bin .geq (.t 34) (.t 38)),oO 40 (.pick (.t 33) (.t 39) (.c (.bool false))),oM 28 40]) (cT 28 (sO [oU (.store 1 (.t 4) (oi 0)),oI 5 4] .ret) (sO [oL 42 7,oM 41 42] (cT 41 (sO [oL 43 4,oS 4 43,oI 5 3] .ret) (sO [oM 45 1,oK 46 .lss 45 0,oM 44 46] (cT 44 (sO [oU (.store 1 (.t 4) (oi 0)),oI 5 1] .ret) .skip))))))) (sO [oU (.store 1 (.t 4) (oi 0)),oI 5 0] .ret)))))))
def zkr : XC :=(.seq (sO [oM 6 2,oY 7 6,oK 8 .eql 7 0] (cT 8 .ret .skip)) (.seq (sO [oM 9 0,oN 10 9,oF 11 0 10,oL 12 11,oM 13 1,oO 14 (.ex (.mlook false (.raw (.pointer none)) false) [.t 12,.t 13]),oO 15 (.ex (.eqP false) [.t 14,oz])] (cT 15 (.ops [oM 16 0,oN 17 16,oF 18 0 17,oL 19 18,oM 20 1,oO 21 (.build [.nsl,(.int .i64 0)] []),oO 22 (.box (.t 21)),oU (.ex (.mset false) [.t 19,.t 20,.t 22])]) .skip)) (.drawR [(oM 23 0,([],false)),(oN 24 23,([],false)),(oF 25 0 24,([],false)),(oL 26 25,([],true)),(oM 27 1,([],false)),(oO 28 (.ex (.mlook false (.raw (.pointer none)) false) [.t 26,.t 27]),([],true)),(oM 29 0,([],false)),(oN 30 29,([],false)),(oF 31 0 30,([],false)),(oL 32 31,([],false)),(oM 33 1,([],false)),(oO 34 (.ex (.mlook false (.raw (.pointer none)) false) [.t 32,.t 33]),([],false)),(oN 35 34,([],false)),(oF 36 0 35,([],false)),(oL 37 36,([],false)),(oM 38 2,([],false)),(oO 39 (.ex (.appT 5 1) [.t 37,.t 38]),([3,5],false)),(oN 40 28,([],false)),(oF 41 0 40,([],false)),(oS 41 39,([],false))])))
def zl5 : XC :=(sO [oI 6 0] (sO [oM 10 0,oM 11 1,oC 12 328 [.t 10,.t 11],oM 9 12,oX 13 0 9,oX 14 1 9,oM 7 13,oM 8 14] (.seq (.block 0 (sO [oM 16 8,oK 17 .eql 16 0,oM 15 17] (cT 15 (.ops [oM 18 0,oM 19 1,oM 20 2,oC 21 353 [.t 18,.t 19,.t 20]]) (sO [oM 23 8,oK 24 .eql 23 3,oM 25 24,oG 26 25 true (.mov (.t 7)),oG 27 25 true (.bin .eql (.t 26) (oi 2)),oO 28 (.pick (.t 25) (.t 27) (.c (.bool false))),oM 29 28,oG 30 29 true (.mov (.t 1)),oG 31 29 true (.bin .geq (.t 30) (oi 0)),oO 32 (.pick (.t 29) (.t 31) (.c (.bool false))),oM 22 32] (cT 22 (.ops [oM 33 0,oM 34 1,oM 35 2,oM 36 2,oY 37 36,oK 38 .quo 37 2,oO 39 (.slice 1 (.t 35) none (some (.t 38))),oC 40 353 [.t 33,.t 34,.t 39]]) .skip))))) (sO [oM 41 8,oM 6 41] .ret))))
def zlr : XC :=(sO [oI 4 0] (sO [oM 9 0,oM 10 1,oC 11 328 [.t 9,.t 10],oM 8 11,oX 12 0 8,oX 13 1 8,oM 5 12,oM 6 13] (.seq (sO [oM 14 0,oN 15 14,oF 16 0 15,oL 17 16,oM 18 1,oO 19 (.ex (.mlook false (.raw (.pointer none)) false) [.t 17,.t 18]),oM 7 19] (sO [oM 20 6,oK 21 .eql 20 0,oM 22 21,oG 23 22 true (.mov (.t 7)),oG 24 22 true (.ex (.eqP true) [.t 23,oz]),oO 25 (.pick (.t 22) (.t 24) (.c (.bool false)))] (cT 25 (.ops [oM 26 7,oM 27 7,oN 28 27,oF 29 0 28,oL 30 29,oY 31 30,oN 32 26,oF 33 1 32,oS 33 31]) .skip))) (sO [oM 34 6,oM 4 34] .ret))))
theorem z2H (b:E.P=Tryz.prog) (g:IV):XT E 369 [.nsl,g] L fun r L'=>r=.int .i64 (-1)/\L'=L:=by
 refine xt2 (fn:=Tryz.f369) (rs:=[.tmp 4]) (c:=zlq) b fun ρ d h1=>?_
 unfold zlq
 simp only [d,go_sem]
 refine y7 ?_
 simp only [go_sem]
theorem z3f (b:E.P=Tryz.prog) (g:IV):XT E 354 [.nsl,g] L fun r L'=>r=.nsl/\L'=L:=by
 refine xt2 (fn:=Tryz.f354) (rs:=[.tmp 4]) (c:=zmu) b fun ρ d h1=>?_
 unfold zmu
 simp only [d,h1,go_sem]
 refine zh (z2H (E:=E.noPan) b g) ?_
 rintro r L' ⟨rfl,rfl⟩
 simp only [d,go_sem]
def vK (m:Nat) (o st:Int):Blk:=.cells 5 [[.mp m,.int .i64 o,.nsl,.bool false,.int .i64 st]]
theorem zbx (l:E.P=Tryz.prog) {d m:Nat} {o st:Int} (b:L[d]?=some (vK m o st)):XT E 328 [.ptr d 0 0,.int .i64 0] L fun r L'=>
  r=.tup [.int .i64 0,.int .i64 0]/\(∃p,L'[d]?=some (vK m p st))/\Keep (fun t=>t=d) L L':=by
 refine xt2 (fn:=Tryz.f328) (rs:=[.cell1 4,.tmp 5]) (c:=zmy) l fun ρ h h1=>?_
 unfold zmy
 unfold vK at b
 have j:=zg b
 simp (maxDischargeDepth:=12) only [h,b,j,go_sem]
 refine zh (z3f (E:=E.noPan) l _) ?_
 rintro r L' ⟨rfl,rfl⟩
 simp (maxDischargeDepth:=12) only [h,h1,j,Y6,YQ,WH,ZJ,go_sem]
 refine ⟨rfl,rfl,⟨_,rfl⟩,?_⟩
 (repeat' first | exact Keep.refl | apply Keep.app | apply Keep.set)<;>(intro hh;first | rfl | (exfalso;first | omega | (simp only [lla,llc,lln] at hh;omega)))
def ZZ (L:List Blk) (d:Nat) (F:Nat->Prop) (N:Nat):Prop:=∃m o st,L[d]?=some (vK m o st)/\
 ((L[m]?=some (.map [] 0)/\F=fun t=>t=d\/t=m)\/
  ∃f b kp rows,L[m]?=some (.map [(.int .i64 0,.ptr f 0 0,0)] 1)/\L[f]?=some (.cells 2 [[.sl b 0 rows.length rows.length,.int .i64 kp]])/\L[b]?=some (.tcells 5 1 rows)/\rows.length<=N/\
   F=fun t=>t=d\/t=m\/t=f\/t=b)
theorem zgy (X:E.P=Tryz.prog) {d:Nat} {F:Nat->Prop} {N:Nat} {x:IV} {rs:List (List IV)} (I:ZZ L d F N) (M:lenOf x=some rs.length) (R:∀L',Keep F L L'->rowsOf L' x=some rs) (J:yz 1 rs) (s:rs≠[]) (hN:N+rs.length<=70368744177664) :
  XT E 353 [.ptr d 0 0,.int .i64 0,x] L fun r L'=>r=.tup []/\(∃F',ZZ L' d F' (N+rs.length)/\Grown F F' L L')/\Keep F L L':=by
 have p:((rs.length:Int)=0)=False:=eq_false (by have:=List.length_pos_iff.2 s;omega)
 obtain ⟨m,o,st,j,I⟩:=I
 unfold vK at j
 have w:=zg j
 refine xt3 (fn:=Tryz.f353) (rs:=[]) (c:=zkr) X fun ρ O h1 h2=>?_
 unfold zkr
 rcases I with ⟨h,rfl⟩ | ⟨f,b,U,rows,h,l,q,hn,rfl⟩
 ·have u:=zg h
  have T:=zo j h (by simp)
  have A:=zo h j (by simp)
  simp (maxDischargeDepth:=12) only [O,h1,h2,j,h,zt M,p,w,u,A,go_sem]
  refine JB (by simp only [lls]) (R _ kQ) J s od ?_
  simp (maxDischargeDepth:=12) only [p,w,u,ne_eq,zaT,sepL,go_sem]
  refine ⟨⟨_,⟨m,o,st,?_,.inr ⟨L.length,(L++[Blk.cells 2 [[IV.nsl,IV.int IntKind.i64 0]]]).length,0,rs,?_,?_,?_,od,rfl⟩⟩,?_⟩,?_⟩
  ·simp (maxDischargeDepth:=12) only [j,w,A,vK,go_sem]
  ·simp (maxDischargeDepth:=12) only [u,go_sem]
  ·simp (maxDischargeDepth:=12) only [go_sem]
  ·simp (maxDischargeDepth:=12) only [go_sem]
  ·intro t G
   simp only [lla,lls,llc,lln] at G ⊢
   omega
  ·exact kQ
 ·have u:=zg h
  have D:=zg l
  have lb:=zg q
  have T:=zo j h (by simp)
  have A:=zo h j (by simp)
  have n3:=zo j l (by simp)
  have S:=zo l j (by simp)
  have n5:=zo j q (by simp)
  have Q:=zo q j (by simp)
  have Z:=zo h l (by simp)
  have Y:=zo l h (by simp)
  have n9:=zo h q (by simp)
  have v:=zo q h (by simp)
  have V:=zo l q (by simp)
  have B:=zo q l (by simp)
  simp (maxDischargeDepth:=12) only [O,h1,h2,j,h,l,zt M,p,Q,v,go_sem]
  refine vz rfl q rfl (R _ Keep.refl) J s od ?_
  simp (maxDischargeDepth:=12) only [l,p,ne_eq,zaT,sepL,w,u,D,B,go_sem]
  refine ⟨⟨_,⟨m,o,st,?_,.inr ⟨f,(L.set b .dead).length,U,rows++rs,?_,?_,?_,?_,rfl⟩⟩,?_⟩,?_⟩
  ·simp (maxDischargeDepth:=12) only [j,vK,w,S,Q,go_sem]
  ·simp (maxDischargeDepth:=12) only [h,u,Y,v,go_sem]
  ·simp (maxDischargeDepth:=12) only [lla,D,go_sem]
  ·simp (maxDischargeDepth:=12) only [D,go_sem]
  ·rw [lla];omega
  ·intro t G
   simp only [lla,lls,llc,lln] at G ⊢
   omega
  ·exact kQ
theorem ZZ.lt {d:Nat} {F:Nat->Prop} {N:Nat} (h:ZZ L d F N):d<L.length/\F d/\∀t,F t->t<L.length:=by
 obtain ⟨m,o,st,j,⟨l,rfl⟩ | ⟨f,b,r,rows,l,p,q,s,rfl⟩⟩:=h
 ·refine ⟨zf j,.inl rfl,?_⟩
  rintro t (rfl | rfl)
  ·exact zf j
  ·exact zf l
 ·refine ⟨zf j,.inl rfl,?_⟩
  rintro t (rfl | rfl | rfl | rfl)
  ·exact zf j
  ·exact zf l
  ·exact zf p
  ·exact zf q
theorem ZZ.keep {d:Nat} {F G:Nat->Prop} {N:Nat} {L':List Blk} (h:ZZ L d F N) (l:Keep G L L') (j:∀t,F t->¬G t):ZZ L' d F N:=by
 obtain ⟨m,o,st,q,⟨p,rfl⟩ | ⟨f,b,u,rows,p,s,v,r,rfl⟩⟩:=h
 ·exact ⟨m,o,st,l.get q (j _ (.inl rfl)),.inl ⟨l.get p (j _ (.inr rfl)),rfl⟩⟩
 ·exact ⟨m,o,st,l.get q (j _ (.inl rfl)),.inr ⟨f,b,u,rows,l.get p (j _ (.inr (.inl rfl))),l.get s (j _ (.inr (.inr (.inl rfl)))),l.get v (j _ (.inr (.inr (.inr rfl)))),r,rfl⟩⟩
theorem z14 (G:E.P=Tryz.prog) {d:Nat} {F:Nat->Prop} {N:Nat} (q:ZZ L d F N):XT E 328 [.ptr d 0 0,.int .i64 0] L fun r L'=>
  r=.tup [.int .i64 0,.int .i64 0]/\ZZ L' d F N/\Keep F L L':=by
 have u:=q.lt
 obtain ⟨m,o,st,j,q⟩:=q
 refine (zbx G j).mono ?_
 rintro r L' ⟨rfl,⟨B,s⟩,p⟩
 refine ⟨rfl,⟨m,B,st,s,?_⟩,p.mono (fun t _ h=>by subst h;exact u.2.1)⟩
 unfold vK at j
 rcases q with ⟨l,rfl⟩ | ⟨f,b,D,rows,l,v,w,A,rfl⟩
 ·exact .inl ⟨p.get l (of_eq_false (zo l j (by simp))),rfl⟩
 ·exact .inr ⟨f,b,D,rows,p.get l (of_eq_false (zo l j (by simp))),p.get v (of_eq_false (zo v j (by simp))),p.get w (of_eq_false (zo w j (by simp))),A,rfl⟩
theorem z9U (q:E.P=Tryz.prog) {d:Nat} {F:Nat->Prop} {N:Nat} {x:IV} {rs:List (List IV)} (A:ZZ L d F N) (w:lenOf x=some rs.length) (B:∀L',Keep F L L'->rowsOf L' x=some rs) (u:yz 1 rs) (l:rs≠[]) (v:N+rs.length<=70368744177664) :
  XT E 323 [.ptr d 0 0,.int .i64 0,x] L fun r L'=>r=.int .i64 0/\(∃F',ZZ L' d F' (N+rs.length)/\Grown F F' L L')/\Keep F L L':=by
 refine xt3 (fn:=Tryz.f323) (rs:=[.tmp 6]) (c:=zl5) q fun ρ s h1 h2=>?_
 unfold zl5
 simp only [s,h1,go_sem]
 refine zh (z14 (E:=E.noPan) q A) ?_
 rintro r L1 ⟨rfl,m,b⟩
 simp only [s,h1,h2,go_sem]
 refine zh (zgy (E:=E.noPan) q m w (fun L' h=>B L' (b.trans h fun _ _ h=>h)) u l v) ?_
 rintro r L2 ⟨rfl,⟨F',p,hg⟩,j⟩
 simp only [go_sem]
 exact ⟨⟨F',p,Grown.trans (Grown.refl (L':=L1)) hg b.1 j.1⟩,b.trans j fun _ _ h=>h⟩
theorem zeJ (A:E.P=Tryz.prog) {d:Nat} {F:Nat->Prop} {N:Nat} (I:ZZ L d F N) :
  XT E 324 [.ptr d 0 0,.int .i64 0] L fun r L'=>r=.int .i64 0/\ZZ L' d F N/\Keep F L L':=by
 refine xt2 (fn:=Tryz.f324) (rs:=[.tmp 4]) (c:=zlr) A fun ρ u h1=>?_
 unfold zlr
 simp only [u,h1,go_sem]
 refine zh (z14 (E:=E.noPan) A I) ?_
 rintro r L1 ⟨rfl,h,q⟩
 have v:=h
 obtain ⟨m,o,st,j,h⟩:=h
 unfold vK at j
 have M:=zg j
 rcases h with ⟨p,rfl⟩ | ⟨f,b,O,rows,p,l,w,B,rfl⟩
 ·simp only [u,h1,j,p,go_sem]
  exact ⟨v,q⟩
 ·have D:=zg l
  simp only [u,h1,j,p,l,go_sem]
  have G:=zo l j (by simp)
  have J:=zo l p (by simp)
  have s:=zo l w (by simp)
  refine ⟨⟨m,o,st,?_,.inr ⟨f,b,(rows.length:Int),rows,?_,?_,?_,B,rfl⟩⟩,q.trans (F':=fun t=>t=f) ?_ ?_⟩
  ·simp only [j,vK,G,go_sem]
  ·simp only [p,J,go_sem]
  ·simp only [D,go_sem]
  ·simp only [w,s,go_sem]
  ·exact kQ
  ·rintro t _ rfl
   exact .inr (.inr (.inl rfl))
def q18 : XC :=(sO [oO 0 (.mov oz)] (sO [oO 1 (.ex .mmake []),oO 2 (.build [(.raw (.map none)),(.int .i64 0),.nsl,(.bool false),(.int .i64 0)] [(0,(1,(.t 1)))]),oO 3 (.box (.t 2)),oM 0 3] .ret))
def zkC : XC :=(sO [oV 2 .nsl] (sO [oM 3 0,oN 4 3,oF 5 0 4,oL 6 5,oC 7 198 [.t 6],oC 8 197 [.t 7],oM 2 8] .ret))
def zkX : XC :=(sO [oI 2 0] (.seq (.cond (.c (.bool false)) (sO [oM 3 0,oO 4 (.cvInt .u32 (.t 3)),oC 5 255 [.t 4],oM 2 5] .ret) .skip) (sO [oM 6 0,oC 7 256 [.t 6],oM 2 7] .ret)))
def zlu : XC :=(sO [oV 2 .nsl] (sO [oM 4 0,oC 5 259 [.t 4],oM 3 5] (sO [oM 6 3,oC 7 260 [.t 6]] (sO [oM 8 3,oM 2 8] .ret))))
def zlE : XC :=(sO [oO 1 (.box (.t 0)),oV 2 (.raw .nilFunc)] (sO [oO 3 (.mkfn (.func 261) [] [.t 1]),oM 2 3] .ret))
def zmg : XC :=(sO [oI 2 0] (.seq (sO [oM 3 0,oO 4 (.bin .geq (.t 3) (.c (.int .u64 4294967296)))] (cT 4 (sO [oM 5 0,oO 6 (.bin .shr (.t 5) (.c (.int .u64 32))),oM 0 6] (.ops [oI 2 32])) .skip)) (.seq (sO [oM 7 0,oO 8 (.bin .geq (.t 7) (.c (.int .u64 65536)))] (cT 8 (sO [oM 9 0,oO 10 (.bin .shr (.t 9) (.c (.int .u64 16))),oM 0 10] (.ops [oM 11 2,oK 12 .add 11 16,oM 2 12])) .skip)) (.seq (sO [oM 13 0,oO 14 (.bin .geq (.t 13) (.c (.int .u64 256)))] (cT 14 (sO [oM 15 0,oO 16 (.bin .shr (.t 15) (.c (.int .u64 8))),oM 0 16] (.ops [oM 17 2,oK 18 .add 17 8,oM 2 18])) .skip)) (sO [oM 19 2,oM 20 0,oO 21 (.cvInt .u8 (.t 20)),oO 22 (.idx (.c (.str [0,1,2,2,3,3,3,3,4,4,4,4,4,4,4,4,5,5,5,5,5,5,5,5,5,5,5,5,5,5,5,5,6,6,6,6,6,6,6,6,6,6,6,6,6,6,6,6,6,6,6,6,6,6,6,6,6,6,6,6,6,6,6,6,7,7,7,7,7,7,7,7,7,7,7,7,7,7,7,7,7,7,7,7,7,7,7,7,7,7,7,7,7,7,7,7,7,7,7,7,7,7,7,7,7,7,7,7,7,7,7,7,7,7,7,7,7,7,7,7,7,7,7,7,7,7,7,7,8,8,8,8,8,8,8,8,8,8,8,8,8,8,8,8,8,8,8,8,8,8,8,8,8,8,8,8,8,8,8,8,8,8,8,8,8,8,8,8,8,8,8,8,8,8,8,8,8,8,8,8,8,8,8,8,8,8,8,8,8,8,8,8,8,8,8,8,8,8,8,8,8,8,8,8,8,8,8,8,8,8,8,8,8,8,8,8,8,8,8,8,8,8,8,8,8,8,8,8,8,8,8,8,8,8,8,8,8,8,8,8,8,8,8,8,8,8,8,8,8,8,8,8,8,8,8,8])) (.t 21)),oO 23 (.cvInt .i64 (.t 22)),oB 24 .add 19 23,oM 2 24] .ret)))))
def zk3 : XC :=(sO [oV 2 .nsl] (sO [oM 3 0,oC 4 307 [(.c .nsl),.t 3],oM 2 4] .ret))
def zkS : XC :=(sO [oM 3 0,oY 4 3,oM 2 4] (.ops [oM 5 0,oM 6 2,oM 7 2,oO 8 (.cvInt .u64 (.t 7)),oC 9 190 [.t 8],oC 10 308 [.t 5,(oi 0),.t 6,.t 9]]))
def zkc : XC :=(sO [oL 4 1,oO 5 (.ex .mrng [.t 4])] (.block 0 (.loop (sO [oO 6 (.ex .mnxt [.t 5]),oX 7 0 6] (.seq (cT 7 .skip (.exit 0)) (.block 1 (.seq .bad (sO [oM 10 0,oM 11 3,oO 12 (.call (.t 10) [.t 11]),oO 13 (.un .not (.t 12))] (cT 13 .ret .skip)))))))))
def zma : XC :=(sO [oO 2 (.box (.t 0)),oV 4 .nsl] (.seq (sO [oM 6 1] (.block 0 (.rngF (.t 6) 13 [7] (.ops [oM 5 7]) (.block 1 (.ops [oL 8 2,oM 9 5,oO 10 (.bslice 1 [(.int .i64 0)] 1 [(0,(.t 9))]),oO 11 (.append 1 8 (.t 8) (.t 10)),oS 2 11]))))) (sO [oL 12 2,oM 4 12] .ret)))
def zjN : XC :=(sO [oV 8 (.bool true)] (sO [oV 9 (.bool true)] (.block 0 (.loop (.block 1 (sO [oM 19 2,oM 20 1,oB 21 .sub 19 20,oM 10 21] (.seq (sO [oM 22 10,oK 23 .leq 22 12] (cT 23 (sO [oM 24 0,oM 25 1,oM 26 2,oC 27 340 [.t 24,.t 25,.t 26]] .ret) .skip)) (.seq (sO [oM 28 3,oK 29 .eql 28 0] (cT 29 (sO [oM 30 0,oM 31 1,oM 32 2,oC 33 341 [.t 30,.t 31,.t 32]] .ret) .skip)) (.seq (sO [oM 34 8,oO 35 (.un .not (.t 34))] (cT 35 (sO [oM 36 0,oM 37 1,oM 38 2,oC 39 342 [.t 36,.t 37,.t 38]] (.ops [oM 40 3,oK 41 .sub 40 1,oM 3 41])) .skip)) (sO [oM 43 0,oM 44 1,oM 45 2,oC 46 343 [.t 43,.t 44,.t 45],oM 42 46,oX 47 0 42,oX 48 1 42,oM 11 47,oM 12 48] (.seq (sO [oM 49 12,oK 50 .eql 49 2] (cT 50 (sO [oM 51 0,oM 52 1,oM 53 2,oC 54 344 [.t 51,.t 52,.t 53]] (sO [oM 55 2,oK 56 .sub 55 1,oM 57 11,oM 58 1,oB 59 .sub 57 58,oB 60 .sub 56 59,oM 11 60] (.ops [oI 12 1]))) .skip)) (.seq (sO [oM 61 8,oM 62 61,oG 63 62 true (.mov (.t 9)),oO 64 (.pick (.t 62) (.t 63) (.c (.bool false))),oM 65 64,oG 66 65 true (.mov (.t 12)),oG 67 65 true (.bin .eql (.t 66) (oi 1)),oO 68 (.pick (.t 65) (.t 67) (.c (.bool false)))] (cT 68 (sO [oM 69 0,oM 70 1,oM 71 2,oC 72 345 [.t 69,.t 70,.t 71]] (cT 72 .ret .skip)) .skip)) (.seq (.seq (.drawE [oM 73 1,oK 74 .gtr 73 0,oM 75 74,oG 76 75 true (.mov (.t 0)),oG 77 75 true (.mov (.t 1)),oG 78 75 true (.bin .sub (.t 77) (oi 1)),oG 79 75 true (.idxS 1 (.t 76) (.t 78)),oG 80 75 true (.load1 (.t 79)),oG 81 75 true (.mov (.t 0)),oG 82 75 true (.mov (.t 11)),oG 83 75 true (.idxS 1 (.t 81) (.t 82)),oG 84 75 true (.load1 (.t 83)),oG 85 75 true (.pcall (.f 346) [.t 80,.t 84]),oG 86 75 true (.un .not (.t 85)),oO 87 (.pick (.t 75) (.t 86) (.c (.bool false)))]) (cT 87 (sO [oM 88 0,oM 89 1,oM 90 2,oM 91 11,oC 92 347 [.t 88,.t 89,.t 90,.t 91],oM 13 92] (sO [oM 93 13,oM 1 93] (.exit 1))) .skip)) (sO [oM 95 0,oM 96 1,oM 97 2,oM 98 11,oC 99 348 [.t 95,.t 96,.t 97,.t 98],oM 94 99,oX 100 0 94,oX 101 1 94,oM 14 100,oM 15 101] (sO [oM 102 15,oM 9 102] (sO [oM 103 14,oM 104 1,oB 105 .sub 103 104,oM 106 2,oM 107 14,oB 108 .sub 106 107,oM 16 105,oM 17 108] (sO [oM 109 10,oK 110 .quo 109 8,oM 18 110] (sO [oM 111 16,oM 112 17,oB 113 .lss 111 112] (cT 113 (sO [oM 114 16,oM 115 18,oB 116 .geq 114 115,oM 8 116] (sO [oM 117 0,oM 118 1,oM 119 14,oM 120 3,oC 121 308 [.t 117,.t 118,.t 119,.t 120]] (.ops [oM 122 14,oK 123 .add 122 1,oM 1 123]))) (sO [oM 124 17,oM 125 18,oB 126 .geq 124 125,oM 8 126] (sO [oM 127 0,oM 128 14,oK 129 .add 128 1,oM 130 2,oM 131 3,oC 132 308 [.t 127,.t 129,.t 130,.t 131]] (.ops [oM 133 14,oM 2 133]))))))))))))))))))))))
def zjI : XC :=(sO [oM 8 1,oK 9 .add 8 1,oM 6 9] (.block 0 (.loop (.seq (sO [oM 10 6,oM 11 2,oB 12 .lss 10 11] (cT 12 .skip (.exit 0))) (.seq (.block 1 (sO [oM 15 6,oM 7 15] (.block 2 (.loop (.seq (.seq (.drawE [oM 16 7,oM 17 1,oB 18 .gtr 16 17,oM 19 18,oG 20 19 true (.mov (.t 0)),oG 21 19 true (.mov (.t 7)),oG 22 19 true (.idxS 1 (.t 20) (.t 21)),oG 23 19 true (.load1 (.t 22)),oG 24 19 true (.mov (.t 0)),oG 25 19 true (.mov (.t 7)),oG 26 19 true (.bin .sub (.t 25) (oi 1)),oG 27 19 true (.idxS 1 (.t 24) (.t 26)),oG 28 19 true (.load1 (.t 27)),oG 29 19 true (.pcall (.f 346) [.t 23,.t 28]),oO 30 (.pick (.t 19) (.t 29) (.c (.bool false)))]) (cT 30 .skip (.exit 2))) (.seq (.block 3 (.drawE [oM 33 0,oM 34 7,oM 35 0,oM 36 7,oK 37 .sub 36 1,oM 38 0,oM 39 7,oK 40 .sub 39 1,oO 41 (.idxS 1 (.t 38) (.t 40)),oL 42 41,oM 43 0,oM 44 7,oO 45 (.idxS 1 (.t 43) (.t 44)),oL 46 45,oO 47 (.idxS 1 (.t 33) (.t 34)),oS 47 42,oO 48 (.idxS 1 (.t 35) (.t 37)),oS 48 46])) (.ops [oM 31 7,oK 32 .sub 31 1,oM 7 32]))))))) (.ops [oM 13 6,oK 14 .add 13 1,oM 6 14]))))))
theorem z0Y (b:E.P=Tryz.prog):XT E 18 [] L fun r L'=>∃d m,r=.ptr d 0 0/\L'=L++[.map [] 0,vK m 0 0]/\m=L.length/\d=L.length+1:=by
 refine xtA (fn:=Tryz.f18) (rs:=[.tmp 0]) (c:=q18) b rfl (by kernel_rfl) (by decide) (Nat.le_of_ble_eq_true rfl) fun ρ e=>?_
 clear e
 unfold q18
 simp only [go_sem]
 exact ⟨_,_,rfl,by simp only [List.append_assoc,go_sem];rfl,rfl,by simp⟩
theorem zev (b:E.P=Tryz.prog):XT E 256 [.int .u64 0] L fun r L'=>r=.int .i64 0/\L'=L:=by
 refine xt1 (fn:=Tryz.f256) (rs:=[.tmp 2]) (c:=zmg) b fun ρ d=>?_
 unfold zmg
 simp only [wu8,d,go_sem]
 rfl
theorem zda (b:E.P=Tryz.prog):XT E 190 [.int .u64 0] L fun r L'=>r=.int .i64 0/\L'=L:=by
 refine xt1 (fn:=Tryz.f190) (rs:=[.tmp 2]) (c:=zkX) b fun ρ d=>?_
 unfold zkX
 simp only [d,go_sem]
 refine zh (zev (E:=E.noPan) b) ?_
 rintro r L' ⟨rfl,rfl⟩
 simp only [go_sem]
theorem z7M (b:E.P=Tryz.prog):XT E 340 [.nsl,.int .i64 0,.int .i64 0] L fun r L'=>r=.tup []/\L'=L:=by
 refine xt3 (fn:=Tryz.f340) (rs:=[]) (c:=zjI) b fun ρ d h1 h2=>?_
 unfold zjI
 simp only [YF,h1,go_sem]
 refine y7 ?_
 simp only [h2,go_sem]
theorem zdN (b:E.P=Tryz.prog):XT E 308 [.nsl,.int .i64 0,.int .i64 0,.int .i64 0] L fun r L'=>r=.tup []/\L'=L:=by
 refine xt4 (fn:=Tryz.f308) (rs:=[]) (c:=zjN) b fun ρ d h1 h2 h=>?_
 unfold zjN
 simp only [go_sem]
 refine y7 ?_
 simp only [YF,d,h1,h2,go_sem]
 refine zh (z7M (E:=E.noPan) b) ?_
 rintro r L' ⟨rfl,rfl⟩
 simp only [YF,go_sem]
theorem zcx (b:E.P=Tryz.prog):XT E 260 [.nsl] L fun r L'=>r=.tup []/\L'=L:=by
 refine xt1 (fn:=Tryz.f260) (rs:=[]) (c:=zkS) b fun ρ d=>?_
 unfold zkS
 simp only [wu64,d,go_sem]
 refine zh (zda (E:=E.noPan) b) ?_
 rintro r L' ⟨rfl,rfl⟩
 simp only [wu64,go_sem]
 refine zh (zdN (E:=E.noPan) b) ?_
 rintro r L' ⟨rfl,rfl⟩
 simp only [wu64,go_sem]
theorem zej (j:E.P=Tryz.prog) {s b m c:Nat} (h:L[b]?=some (.cells 1 [[.mp m]])) (d:L[m]?=some (.map [] c)):XT E 261 [.yld s,.ptr b 0 0] L fun r L'=>r=.tup []/\Keep none' L L':=by
 have p:=zg h
 have l:=zg d
 refine xt2 (fn:=Tryz.f261) (rs:=[]) (c:=zkc) j fun ρ q h1=>?_
 unfold zkc
 simp only [h1,h,d,go_sem]
 refine y7 ?_
 simp only [d,l,go_sem]
 exact kP
theorem z2a (p:E.P=Tryz.prog) {b m c:Nat} (l:L[b]?=some (.cells 1 [[.mp m]])) (j:L[m]?=some (.map [] c)):XT E 307 [.nsl,.fn (.func 261) [] [.ptr b 0 0]] L fun r L'=>r=.nsl/\Keep none' L L':=by
 have q:=zg l
 have v:=zg j
 refine xt2 (fn:=Tryz.f307) (rs:=[.tmp 4]) (c:=zma) p fun ρ s h1=>?_
 unfold zma
 simp only [s,h1,go_sem]
 refine z5X (gf:=261) (caps:=[.ptr b 0 0]) (by simp only [go_sem]) ?_
 intro r0 w A B
 refine (zej (p) (b:=b) (m:=m) (c:=c) ?_ ?_).mono ?_
 ·simp only [l,q,go_sem]
 ·simp only [j,v,go_sem]
 ·rintro r L' ⟨rfl,d⟩
  refine ⟨r0,d.get (by simp only [go_sem]) (fun h=>h),by rw [w];decide,?_⟩
  rw [A]
  have e1:L'[L.length]?=some (.cells 1 [[.nsl]]):=d.get (by simp only [go_sem]) (fun h=>h)
  have D:=zg e1
  have G:=d.1
  have u:((L++[Blk.cells 1 [[IV.nsl]]]).length=L.length)=False:=eq_false (by simp)
  simp only [e1,u,go_sem]
  refine Keep.set (Keep.trans (Keep.app (Keep.app Keep.refl)) d fun _ _ h=>h) (fun h=>?_)
  rw [lla] at h;simp at h;omega
theorem zbV (b:E.P=Tryz.prog) {m:Nat}:XT E 198 [.mp m] L fun r L'=>r=.fn (.func 261) [] [.ptr L.length 0 0]/\L'=L++[.cells 1 [[.mp m]]]:=by
 refine xt1 (fn:=Tryz.f198) (rs:=[.tmp 2]) (c:=zlE) b fun ρ d=>?_
 unfold zlE
 simp only [d,go_sem]
theorem z4Z (d:E.P=Tryz.prog) {b m c:Nat} (h:L[b]?=some (.cells 1 [[.mp m]])) (p:L[m]?=some (.map [] c)):XT E 259 [.fn (.func 261) [] [.ptr b 0 0]] L fun r L'=>r=.nsl/\Keep none' L L':=by
 refine xt1 (fn:=Tryz.f259) (rs:=[.tmp 2]) (c:=zk3) d fun ρ j=>?_
 unfold zk3
 simp only [j,go_sem]
 refine zh (z2a (E:=E.noPan) d h p) ?_
 rintro r L' ⟨rfl,l⟩
 simp only [go_sem]
 exact l
theorem z7D (d:E.P=Tryz.prog) {b m c:Nat} (h:L[b]?=some (.cells 1 [[.mp m]])) (p:L[m]?=some (.map [] c)):XT E 197 [.fn (.func 261) [] [.ptr b 0 0]] L fun r L'=>r=.nsl/\Keep none' L L':=by
 refine xt1 (fn:=Tryz.f197) (rs:=[.tmp 2]) (c:=zlu) d fun ρ j=>?_
 unfold zlu
 simp only [j,go_sem]
 refine zh (z4Z (E:=E.noPan) d h p) ?_
 rintro r L' ⟨rfl,l⟩
 simp only [go_sem]
 refine zh (zcx (E:=E.noPan) d) ?_
 rintro r L' ⟨rfl,rfl⟩
 simp only [go_sem]
 exact l
theorem z3c (j:E.P=Tryz.prog) {d m:Nat} {o st:Int} (b:L[d]?=some (vK m o st)) (l:L[m]?=some (.map [] 0)):XT E 135 [.ptr d 0 0] L fun r L'=>r=.nsl/\Keep none' L L':=by
 unfold vK at b
 have u:=zg b
 have s:=zg l
 refine xt1 (fn:=Tryz.f135) (rs:=[.tmp 2]) (c:=zkC) j fun ρ p=>?_
 unfold zkC
 simp only [p,b,go_sem]
 refine zh (zbV (E:=E.noPan) j) ?_
 rintro r L' ⟨rfl,rfl⟩
 simp only [go_sem]
 refine zh (z7D (E:=E.noPan) j (m:=m) (c:=0) (by simp only [go_sem]) (by simp only [s,l,go_sem])) ?_
 rintro r L' ⟨rfl,q⟩
 simp only [go_sem]
 exact Keep.trans (Keep.app Keep.refl) q fun _ _ h=>h
def zkD : XC :=(sO [oI 6 0] (.seq (sO [oM 8 0,oN 9 8,oF 10 0 9,oL 11 10,oM 12 1,oM 13 2,oC 14 323 [.t 11,.t 12,.t 13],oM 7 14] (sO [oM 15 7,oK 16 .neq 15 0] (cT 16 (sO [oM 17 7,oM 6 17] .ret) .skip))) (sO [oM 18 0,oN 19 18,oF 20 0 19,oL 21 20,oM 22 1,oC 23 324 [.t 21,.t 22],oM 6 23] .ret)))
def zlV : XC :=(sO [oI 2 0] (.seq (.draw [oM 3 0,oN 4 3,oF 5 3 4,oL 6 5,oM 7 0,oN 8 7,oF 9 4 8,oL 10 9,oY 11 10,oB 12 .add 6 11,oM 2 12]) .ret))
theorem zd0 (B:E.P=Tryz.prog) {lg d:Nat} {F:Nat->Prop} {N:Nat} {c1 c2 c3 c4 c5 c6 x:IV} {rs:List (List IV)} (l:L[lg]?=some (.cells 7 [[.ptr d 0 0,c1,c2,c3,c4,c5,c6]])) (T:¬F lg) (R:ZZ L d F N)
  (G:Bts L x rs) (s:∀b o n c,x=.sl b o n c->¬F b) (u:rs≠[]) (M:N+rs.length<=70368744177664) :
  XT E 285 [.ptr lg 0 0,.int .i64 0,x] L fun r L'=>r=.int .i64 0/\(∃F',ZZ L' d F' (N+rs.length)/\Grown F F' L L')/\Keep F L L':=by
 have U:=zg l
 have D:zA rs:=G.2.1
 refine xt3 (fn:=Tryz.f285) (rs:=[.tmp 6]) (c:=zkD) B fun ρ I h1 h2=>?_
 unfold zkD
 simp only [I,h1,h2,l,go_sem]
 refine zh (z9U (E:=E.noPan) B R G.len (fun L' Q=>(G.keep Q s).rows) D.rowsC u M) ?_
 rintro r L1 ⟨rfl,⟨F1,v,p⟩,q⟩
 have j:=q.get l T
 have S:=zg j
 simp only [I,h1,j,go_sem]
 refine zh (zeJ (E:=E.noPan) B v) ?_
 rintro r L2 ⟨rfl,w,m⟩
 simp only [go_sem]
 refine ⟨⟨F1,w,fun t A=>?_⟩,q.trans m fun t J A=>?_⟩
 ·rcases p t A with h | ⟨h,O⟩
  ·exact .inl h
  ·exact .inr ⟨h,Nat.lt_of_lt_of_le O m.1⟩
 ·rcases p t A with h | ⟨h,_⟩
  ·exact h
  ·omega
theorem z5e (j:E.P=Tryz.prog) {lg k:Nat} {f:Int} {c0 c1 c2 c4 c5 c6:IV} (b:L[lg]?=some (.cells 7 [[c0,c1,c2,.int .i64 f,c4,c5,c6]])) (h:lenOf c4=some k) :
  XT E 206 [.ptr lg 0 0] L fun r L'=>r=.int .i64 (IntKind.i64.wrap (f+k))/\L'=L:=by
 have l:=zg b
 refine xt1 (fn:=Tryz.f206) (rs:=[.tmp 2]) (c:=zlV) j fun ρ d=>?_
 unfold zlV
 simp only [d,b,zt h,go_sem]
 rfl
def q73 : XC :=(sO [oO 4 (.mov oz),oI 5 0] (.seq (sO [oM 14 0,oO 15 (.ex (.eqP false) [.t 14,oz]),oM 16 15,oG 17 16 false (.mov (.t 1)),oG 18 16 false (.bin .lss (.t 17) (oi 0)),oO 19 (.pick (.t 16) (.c (.bool true)) (.t 18)),oM 20 19,oG 21 20 false (.mov (.t 1)),oG 22 20 false (.bin .geq (.t 21) (oi 16)),oO 23 (.pick (.t 20) (.c (.bool true)) (.t 22))] (cT 23 (sO [oO 4 (.mov oz),oI 5 1] .ret) .skip)) (sO [oM 24 0,oM 25 1,oK 26 .mul 25 1048576,oO 27 (.build [(.raw (.pointer none)),(.int .i64 0),.nsl,(.int .i64 0),.nsl,(.bool false),(.bool false)] [(0,(1,(.t 24))),(1,(1,(.t 26)))]),oO 28 (.box (.t 27)),oM 6 28] (.seq (sO [oM 29 0,oC 30 135 [.t 29],oY 31 30,oI 32 0] (.block 0 (.loop (sO [oB 33 .lss 32 31] (.seq (cT 33 .skip (.exit 0)) (.seq (.block 1 (sO [oO 34 (.idxS 1 (.t 30) (.t 32)),oL 35 34,oM 8 35] (.seq (sO [oM 36 8,oM 37 6,oN 38 37,oF 39 1 38,oL 40 39,oB 41 .lss 36 40,oM 42 41,oG 43 42 false (.mov (.t 8)),oG 44 42 false (.mov (.t 6)),oG 45 42 false (.nilck (.t 44)),oG 46 42 false (.fldA 1 (.t 45)),oG 47 42 false (.load1 (.t 46)),oG 48 42 false (.bin .add (.t 47) (oi 1048576)),oG 49 42 false (.bin .geq (.t 43) (.t 48)),oO 50 (.pick (.t 42) (.c (.bool true)) (.t 49))] (cT 50 (.exit 1) .skip)) (sO [oM 52 6,oM 53 8,oC 54 136 [.t 52,.t 53],oM 51 54,oX 55 0 51,oX 56 1 51,oO 9 (.alloc [(.int .i64 0),(.int .i64 0),(.int .i64 0),(.int .i64 0),(.bool false),(.int .i64 0),(.int .i64 0),(.int .i64 0)]),oU (.store 8 (.t 9) (.t 55)),oM 10 56] (.seq (sO [oM 57 10,oO 58 (.un .not (.t 57))] (cT 58 (sO [oM 59 6,oN 60 59,oF 61 6 60,oU (.store 1 (.t 61) (.c (.bool true)))] (.exit 1)) .skip)) (.drawR [(oM 62 6,([],false)),(oM 63 6,([],false)),(oN 64 63,([],false)),(oF 65 2 64,([],false)),(oL 66 65,([],true)),(oO 67 (.loadN 8 (.t 9)),([],false)),(oO 68 (.bslice 8 [(.int .i64 0),(.int .i64 0),(.int .i64 0),(.int .i64 0),(.bool false),(.int .i64 0),(.int .i64 0),(.int .i64 0)] 1 [(0,(.t 67))]),([4],false)),(oO 69 (.append 8 64 (.t 66) (.t 68)),([],false)),(oN 70 62,([],false)),(oF 71 2 70,([],false)),(oS 71 69,([],false))])))))) (.ops [oK 72 .add 32 1,oM 32 72]))))))) (sO [oM 73 6,oN 74 73,oF 75 2 74,oL 76 75,oC 77 137 [.t 76,(.f 138)]] (.seq (sO [oM 78 6,oN 79 78,oF 80 2 79,oL 81 80,oY 82 81,oI 83 0] (.block 2 (.loop (sO [oB 84 .lss 83 82] (.seq (cT 84 .skip (.exit 2)) (.seq (.block 3 (sO [oM 85 83,oM 11 85] (sO [oI 12 1099511627776] (.seq (sO [oM 86 11,oK 87 .add 86 1,oM 88 6,oN 89 88,oF 90 2 89,oL 91 90,oY 92 91,oB 93 .lss 87 92] (cT 93 (.ops [oM 94 6,oN 95 94,oF 96 2 95,oL 97 96,oM 98 11,oK 99 .add 98 1,oO 100 (.idxS 8 (.t 97) (.t 99)),oF 101 0 100,oF 102 1 101,oL 103 102,oM 12 103]) .skip)) (.ops [oM 104 6,oM 105 6,oN 106 105,oF 107 2 106,oL 108 107,oM 109 11,oO 110 (.idxS 8 (.t 108) (.t 109)),oM 111 12,oC 112 140 [.t 104,.t 110,.t 111]]))))) (.ops [oK 113 .add 83 1,oM 83 113]))))))) (.seq (sO [oM 114 6,oN 115 114,oF 116 2 115,oL 117 116,oY 118 117,oK 119 .gtr 118 0] (cT 119 (.seq (.drawE [oM 120 6,oN 121 120,oF 122 2 121,oL 123 122,oM 124 6,oN 125 124,oF 126 2 125,oL 127 126,oY 128 127,oK 129 .sub 128 1,oO 130 (.idxS 8 (.t 123) (.t 129)),oO 131 (.loadN 8 (.t 130)),oO 13 (.alloc [(.int .i64 0),(.int .i64 0),(.int .i64 0),(.int .i64 0),(.bool false),(.int .i64 0),(.int .i64 0),(.int .i64 0)]),oU (.store 8 (.t 13) (.t 131))]) (.drawE [oM 132 6,oM 133 6,oN 134 133,oF 135 6 134,oL 136 135,oM 137 136,oG 138 137 false (.fldA 6 (.t 13)),oG 139 137 false (.load1 (.t 138)),oG 140 137 false (.mov (.t 0)),oG 141 137 false (.fldA 5 (.t 13)),oG 142 137 false (.load1 (.t 141)),oG 143 137 false (.pcall (.f 141) [.t 140,.t 142]),oG 144 137 false (.len (.t 143)),oG 145 137 false (.bin .neq (.t 139) (.t 144)),oO 146 (.pick (.t 137) (.c (.bool true)) (.t 145)),oN 147 132,oF 148 6 147,oS 148 146])) .skip)) (sO [oM 149 6,oM 4 149,oI 5 0] .ret))))))))
def zkn : XC :=(sO [oM 5 0,oY 6 5,oM 4 6] (.ops [oM 7 0,oM 8 4,oM 9 4,oO 10 (.cvInt .u64 (.t 9)),oC 11 190 [.t 10],oM 12 1,oC 13 203 [.t 7,(oi 0),.t 8,.t 11,.t 12]]))
def zjM : XC :=(sO [oV 10 (.bool true)] (sO [oV 11 (.bool true)] (.block 0 (.loop (.block 1 (sO [oM 21 2,oM 22 1,oB 23 .sub 21 22,oM 12 23] (.seq (sO [oM 24 12,oK 25 .leq 24 12] (cT 25 (sO [oM 26 0,oM 27 1,oM 28 2,oM 29 4,oC 30 264 [.t 26,.t 27,.t 28,.t 29]] .ret) .skip)) (.seq (sO [oM 31 3,oK 32 .eql 31 0] (cT 32 (sO [oM 33 0,oM 34 1,oM 35 2,oM 36 4,oC 37 265 [.t 33,.t 34,.t 35,.t 36]] .ret) .skip)) (.seq (sO [oM 38 10,oO 39 (.un .not (.t 38))] (cT 39 (sO [oM 40 0,oM 41 1,oM 42 2,oM 43 4,oC 44 266 [.t 40,.t 41,.t 42,.t 43]] (.ops [oM 45 3,oK 46 .sub 45 1,oM 3 46])) .skip)) (sO [oM 48 0,oM 49 1,oM 50 2,oM 51 4,oC 52 267 [.t 48,.t 49,.t 50,.t 51],oM 47 52,oX 53 0 47,oX 54 1 47,oM 13 53,oM 14 54] (.seq (sO [oM 55 14,oK 56 .eql 55 2] (cT 56 (sO [oM 57 0,oM 58 1,oM 59 2,oM 60 4,oC 61 268 [.t 57,.t 58,.t 59,.t 60]] (sO [oM 62 2,oK 63 .sub 62 1,oM 64 13,oM 65 1,oB 66 .sub 64 65,oB 67 .sub 63 66,oM 13 67] (.ops [oI 14 1]))) .skip)) (.seq (sO [oM 68 10,oM 69 68,oG 70 69 true (.mov (.t 11)),oO 71 (.pick (.t 69) (.t 70) (.c (.bool false))),oM 72 71,oG 73 72 true (.mov (.t 14)),oG 74 72 true (.bin .eql (.t 73) (oi 1)),oO 75 (.pick (.t 72) (.t 74) (.c (.bool false)))] (cT 75 (sO [oM 76 0,oM 77 1,oM 78 2,oM 79 4,oC 80 269 [.t 76,.t 77,.t 78,.t 79]] (cT 80 .ret .skip)) .skip)) (.seq (.seq (.drawE [oM 81 1,oK 82 .gtr 81 0,oM 83 82,oG 84 83 true (.mov (.t 4)),oG 85 83 true (.mov (.t 0)),oG 86 83 true (.mov (.t 1)),oG 87 83 true (.bin .sub (.t 86) (oi 1)),oG 88 83 true (.idxS 8 (.t 85) (.t 87)),oG 89 83 true (.loadN 8 (.t 88)),oG 90 83 true (.mov (.t 0)),oG 91 83 true (.mov (.t 13)),oG 92 83 true (.idxS 8 (.t 90) (.t 91)),oG 93 83 true (.loadN 8 (.t 92)),oG 94 83 true (.pcall (.t 84) [.t 89,.t 93]),oG 95 83 true (.bin .lss (.t 94) (oi 0)),oG 96 83 true (.un .not (.t 95)),oO 97 (.pick (.t 83) (.t 96) (.c (.bool false)))]) (cT 97 (sO [oM 98 0,oM 99 1,oM 100 2,oM 101 13,oM 102 4,oC 103 270 [.t 98,.t 99,.t 100,.t 101,.t 102],oM 15 103] (sO [oM 104 15,oM 1 104] (.exit 1))) .skip)) (sO [oM 106 0,oM 107 1,oM 108 2,oM 109 13,oM 110 4,oC 111 271 [.t 106,.t 107,.t 108,.t 109,.t 110],oM 105 111,oX 112 0 105,oX 113 1 105,oM 16 112,oM 17 113] (sO [oM 114 17,oM 11 114] (sO [oM 115 16,oM 116 1,oB 117 .sub 115 116,oM 118 2,oM 119 16,oB 120 .sub 118 119,oM 18 117,oM 19 120] (sO [oM 121 12,oK 122 .quo 121 8,oM 20 122] (sO [oM 123 18,oM 124 19,oB 125 .lss 123 124] (cT 125 (sO [oM 126 18,oM 127 20,oB 128 .geq 126 127,oM 10 128] (sO [oM 129 0,oM 130 1,oM 131 16,oM 132 3,oM 133 4,oC 134 203 [.t 129,.t 130,.t 131,.t 132,.t 133]] (.ops [oM 135 16,oK 136 .add 135 1,oM 1 136]))) (sO [oM 137 19,oM 138 20,oB 139 .geq 137 138,oM 10 139] (sO [oM 140 0,oM 141 16,oK 142 .add 141 1,oM 143 2,oM 144 3,oM 145 4,oC 146 203 [.t 140,.t 142,.t 143,.t 144,.t 145]] (.ops [oM 147 16,oM 2 147]))))))))))))))))))))))
def zkG : XC :=(sO [oM 10 1,oK 11 .add 10 1,oM 8 11] (.block 0 (.loop (.seq (sO [oM 12 8,oM 13 2,oB 14 .lss 12 13] (cT 14 .skip (.exit 0))) (.seq (.block 1 (sO [oM 17 8,oM 9 17] (.block 2 (.loop (.seq (.seq (.drawE [oM 18 9,oM 19 1,oB 20 .gtr 18 19,oM 21 20,oG 22 21 true (.mov (.t 3)),oG 23 21 true (.mov (.t 0)),oG 24 21 true (.mov (.t 9)),oG 25 21 true (.idxS 8 (.t 23) (.t 24)),oG 26 21 true (.loadN 8 (.t 25)),oG 27 21 true (.mov (.t 0)),oG 28 21 true (.mov (.t 9)),oG 29 21 true (.bin .sub (.t 28) (oi 1)),oG 30 21 true (.idxS 8 (.t 27) (.t 29)),oG 31 21 true (.loadN 8 (.t 30)),oG 32 21 true (.pcall (.t 22) [.t 26,.t 31]),oG 33 21 true (.bin .lss (.t 32) (oi 0)),oO 34 (.pick (.t 21) (.t 33) (.c (.bool false)))]) (cT 34 .skip (.exit 2))) (.seq (.block 3 (.drawE [oM 37 0,oM 38 9,oM 39 0,oM 40 9,oK 41 .sub 40 1,oM 42 0,oM 43 9,oK 44 .sub 43 1,oO 45 (.idxS 8 (.t 42) (.t 44)),oO 46 (.loadN 8 (.t 45)),oM 47 0,oM 48 9,oO 49 (.idxS 8 (.t 47) (.t 48)),oO 50 (.loadN 8 (.t 49)),oO 51 (.idxS 8 (.t 37) (.t 38)),oU (.store 8 (.t 51) (.t 46)),oO 52 (.idxS 8 (.t 39) (.t 41)),oU (.store 8 (.t 52) (.t 50))])) (.ops [oM 35 9,oK 36 .sub 35 1,oM 9 36]))))))) (.ops [oM 15 8,oK 16 .add 15 1,oM 8 16]))))))
theorem z4t (b:E.P=Tryz.prog) {g:IV}:XT E 264 [.nsl,.int .i64 0,.int .i64 0,g] L fun r L'=>r=.tup []/\L'=L:=by
 refine xt4 (fn:=Tryz.f264) (rs:=[]) (c:=zkG) b fun ρ h h1 h2 d=>?_
 unfold zkG
 simp only [YF,h1,go_sem]
 refine y7 ?_
 simp only [h2,go_sem]
theorem zbZ (b:E.P=Tryz.prog) {g:IV}:XT E 203 [.nsl,.int .i64 0,.int .i64 0,.int .i64 0,g] L fun r L'=>r=.tup []/\L'=L:=by
 refine xt5 (fn:=Tryz.f203) (rs:=[]) (c:=zjM) b fun ρ d h1 h2 j h=>?_
 unfold zjM
 simp only [go_sem]
 refine y7 ?_
 simp only [YF,d,h1,h2,h,go_sem]
 refine zh (z4t (E:=E.noPan) b) ?_
 rintro r L' ⟨rfl,rfl⟩
 simp only [YF,go_sem]
theorem z8s (b:E.P=Tryz.prog) {g:IV}:XT E 137 [.nsl,g] L fun r L'=>r=.tup []/\L'=L:=by
 refine xt2 (fn:=Tryz.f137) (rs:=[]) (c:=zkn) b fun ρ d h1=>?_
 unfold zkn
 simp only [wu64,d,go_sem]
 refine zh (zda (E:=E.noPan) b) ?_
 rintro r L' ⟨rfl,rfl⟩
 simp only [wu64,h1,go_sem]
 refine zh (zbZ (E:=E.noPan) b) ?_
 rintro r L' ⟨rfl,rfl⟩
 simp only [wu64,go_sem]
theorem zeL (p:E.P=Tryz.prog) {d m:Nat} {o st:Int} (l:L[d]?=some (vK m o st)) (s:L[m]?=some (.map [] 0)):XT E 73 [.ptr d 0 0,.int .i64 0] L fun r L'=>
  ∃lg,r=.tup [.ptr lg 0 0,.int .i64 0]/\lg=L.length/\L'[lg]?=some (.cells 7 [[.ptr d 0 0,.int .i64 0,.nsl,.int .i64 0,.nsl,.bool false,.bool false]])/\Keep none' L L':=by
 have v:=zg l
 have w:=zg s
 have j:=l
 unfold vK at l
 refine xt2 (fn:=Tryz.f73) (rs:=[.tmp 4,.tmp 5]) (c:=q73) p fun ρ u h1=>?_
 unfold q73
 simp only [u,h1,go_sem]
 refine zh (z3c (E:=E.noPan) p (d:=d) (m:=m) (o:=o) (st:=st) (by simp only [v,j,go_sem]) (by simp only [w,s,go_sem])) ?_
 rintro r L' ⟨rfl,q⟩
 have b:=q.get (t:=L.length) (k:=.cells 7 [[.ptr d 0 0,.int .i64 0,.nsl,.int .i64 0,.nsl,.bool false,.bool false]]) (by simp only [go_sem]<;>rfl) (fun h=>h)
 have A:=zg b
 simp only [go_sem]
 refine y7 ?_
 simp only [b,go_sem]
 refine zh (z8s (E:=E.noPan) p) ?_
 rintro r L1 ⟨rfl,rfl⟩
 simp only [b,go_sem]
 refine y7 ?_
 simp only [b,go_sem]
 exact ⟨L.length,rfl,rfl,b,Keep.trans (Keep.app Keep.refl) q fun _ _ h=>h⟩
def zkL : XC :=(sO [oI 2 0,oV 3 .nsl] (sO [oO 9 (.ex .mmake []),oM 4 9] (.seq (sO [oM 10 0,oN 11 10,oF 12 2 11,oL 13 12,oY 14 13,oI 15 0] (.block 0 (.loop (sO [oB 16 .lss 15 14] (.seq (cT 16 .skip (.exit 0)) (.seq (.block 1 (sO [oO 17 (.idxS 8 (.t 13) (.t 15)),oO 18 (.loadN 8 (.t 17)),oO 6 (.alloc [(.int .i64 0),(.int .i64 0),(.int .i64 0),(.int .i64 0),(.bool false),(.int .i64 0),(.int .i64 0),(.int .i64 0)]),oU (.store 8 (.t 6) (.t 18))] (.ops [oM 19 4,oF 20 5 6,oL 21 20,oU (.ex (.mset false) [.t 19,.t 21,(.c (.bool true))])]))) (.ops [oK 22 .add 15 1,oM 15 22]))))))) (.seq (sO [oM 23 0,oN 24 23,oF 25 0 24,oL 26 25,oC 27 135 [.t 26],oY 28 27,oI 29 0] (.block 2 (.loop (sO [oB 30 .lss 29 28] (.seq (cT 30 .skip (.exit 2)) (.seq (.block 3 (sO [oO 31 (.idxS 1 (.t 27) (.t 29)),oL 32 31,oM 8 32] (sO [oM 33 8,oM 34 0,oN 35 34,oF 36 1 35,oL 37 36,oB 38 .geq 33 37,oM 39 38,oG 40 39 true (.mov (.t 8)),oG 41 39 true (.mov (.t 0)),oG 42 39 true (.nilck (.t 41)),oG 43 39 true (.fldA 1 (.t 42)),oG 44 39 true (.load1 (.t 43)),oG 45 39 true (.bin .add (.t 44) (oi 1048576)),oG 46 39 true (.bin .lss (.t 40) (.t 45)),oO 47 (.pick (.t 39) (.t 46) (.c (.bool false))),oM 48 47,oG 49 48 true (.mov (.t 4)),oG 50 48 true (.mov (.t 8)),oG 51 48 true (.ex (.mlook false (.bool false) false) [.t 49,.t 50]),oG 52 48 true (.un .not (.t 51)),oO 53 (.pick (.t 48) (.t 52) (.c (.bool false)))] (cT 53 (sO [oM 54 3,oM 55 8,oO 56 (.bslice 1 [(.int .i64 0)] 1 [(0,(.t 55))]),oO 57 (.append 1 8 (.t 54) (.t 56)),oM 3 57] (.ops [oM 58 4,oM 59 8,oU (.ex (.mset false) [.t 58,.t 59,(.c (.bool true))])])) .skip)))) (.ops [oK 60 .add 29 1,oM 29 60]))))))) (.seq (sO [oM 61 0,oN 62 61,oF 63 1 62,oL 64 63,oM 2 64] (.block 4 (.loop (.seq (sO [oM 65 4,oM 66 2,oO 67 (.ex (.mlook false (.bool false) false) [.t 65,.t 66])] (cT 67 .skip (.exit 4))) (.seq (.block 5 .skip) (.ops [oM 68 2,oK 69 .add 68 1,oM 2 69])))))) (sO [oM 70 2,oM 71 3,oM 2 70,oM 3 71] .ret))))))
theorem zbr (v:E.P=Tryz.prog) {lg d m:Nat} {o st:Int} {c3 c4 c5 c6:IV} (b:L[lg]?=some (.cells 7 [[.ptr d 0 0,.int .i64 0,.nsl,c3,c4,c5,c6]])) (u:L[d]?=some (vK m o st)) (s:L[m]?=some (.map [] 0)) :
  XT E 325 [.ptr lg 0 0] L fun r L'=>r=.tup [.int .i64 0,.nsl]/\Keep none' L L':=by
 have l:=zg b
 have w:=zg u
 have A:=zg s
 refine xt1 (fn:=Tryz.f325) (rs:=[.tmp 2,.tmp 3]) (c:=zkL) v fun ρ p=>?_
 unfold zkL
 simp only [p,b,l,go_sem]
 refine y7 ?_
 simp only [p,b,l,go_sem]
 refine zh (z3c (E:=E.noPan) v (d:=d) (m:=m) (o:=o) (st:=st) (by simp only [w,u,go_sem]) (by simp only [A,s,go_sem])) ?_
 rintro r L' ⟨rfl,q⟩
 have hg:=q.get (t:=L.length) (k:=.map [] 0) (by simp only [go_sem]) (fun h=>h)
 have D:=zg hg
 have j:=q.get (t:=lg) (k:=.cells 7 [[.ptr d 0 0,.int .i64 0,.nsl,c3,c4,c5,c6]]) (by simp only [l,b,go_sem]) (fun h=>h)
 have B:=zg j
 simp only [go_sem]
 refine y7 ?_
 simp only [p,j,go_sem]
 refine y7 ?_
 simp only [hg,go_sem]
 exact Keep.trans (Keep.app Keep.refl) q fun _ _ h=>h
def zmA : XC :=(sO [oO 6 (.box (.t 2)),oI 8 0] (sO [oM 18 0,oM 19 0,oN 20 18,oF 21 6 20,oU (.store 1 (.t 21) (.c (.bool true))),oN 22 19,oF 23 5 22,oU (.store 1 (.t 23) (.c (.bool true)))] (sO [oM 25 0,oC 26 325 [.t 25],oM 24 26,oX 27 0 24,oX 28 1 24,oM 9 27,oM 10 28] (.seq (sO [oM 29 10,oY 30 29,oI 31 0] (.block 0 (.loop (sO [oB 32 .lss 31 30] (.seq (cT 32 .skip (.exit 0)) (.seq (.block 1 (sO [oO 33 (.idxS 1 (.t 29) (.t 31)),oL 34 33,oM 12 34] (sO [oM 35 0,oN 36 35,oF 37 0 36,oL 38 37,oM 39 12,oC 40 290 [.t 38,.t 39],oM 13 40] (sO [oM 41 13,oK 42 .neq 41 0] (cT 42 (sO [oM 43 13,oM 8 43] .ret) .skip))))) (.ops [oK 44 .add 31 1,oM 31 44]))))))) (sO [oF 45 0 6,oU (.store 1 (.t 45) (oi 1))] (.seq (sO [oM 46 0,oN 47 46,oF 48 2 47,oL 49 48,oY 50 49,oM 14 50] (sO [oM 51 14,oK 52 .gtr 51 0] (cT 52 (.drawR [(oM 53 0,([],false)),(oN 54 53,([],false)),(oF 55 2 54,([],false)),(oL 56 55,([],false)),(oM 57 14,([],false)),(oK 58 .sub 57 1,([],false)),(oO 59 (.idxS 8 (.t 56) (.t 58)),([],false)),(oF 60 0 59,([],false)),(oF 61 0 60,([],false)),(oL 62 61,([],false)),(oK 63 .add 62 1,([],false)),(oM 64 0,([],false)),(oN 65 64,([],false)),(oF 66 2 65,([],false)),(oL 67 66,([],true)),(oM 68 14,([],false)),(oK 69 .sub 68 1,([],false)),(oO 70 (.idxS 8 (.t 67) (.t 69)),([],true)),(oF 71 6 70,([],false)),(oL 72 71,([],true)),(oF 73 0 6,([],false)),(oS 73 63,([14,17,19],false)),(oF 74 1 6,([],false)),(oS 74 72,([],false))]) .skip))) (.seq (.drawE [oM 75 1,oF 76 0 6,oL 77 76,oF 78 1 6,oL 79 78,oF 80 2 6,oL 81 80,oF 82 3 6,oL 83 82,oM 84 3,oY 85 84,oM 86 3,oQ 87 202 [.t 86],oO 88 (.cvInt .i64 (.t 87)),oO 89 (.bslice 1 [(.int .i64 0)] 6 [(0,(.t 77)),(1,(.t 79)),(2,(.t 81)),(3,(.t 83)),(4,(.t 85)),(5,(.t 88))]),oC 90 288 [.t 75,.t 89],oM 91 3,oO 92 (.ex (.appT 5 1) [.t 90,.t 91]),oM 15 92]) (.seq (sO [oM 93 0,oM 94 9,oM 95 15,oC 96 285 [.t 93,.t 94,.t 95],oM 16 96] (sO [oM 97 16,oK 98 .neq 97 0] (cT 98 (sO [oM 99 16,oM 8 99] .ret) .skip))) (.seq (sO [oM 100 1,oO 101 (.bin .eql (.t 100) (.c (.int .u8 119)))] (cT 101 (sO [oM 102 0,oN 103 102,oF 104 2 103,oL 105 104,oY 106 105,oI 107 0] (.block 2 (.loop (sO [oB 108 .lss 107 106] (.seq (cT 108 .skip (.exit 2)) (.seq (.block 3 (sO [oM 109 107,oM 17 109] (.drawE [oM 110 0,oN 111 110,oF 112 2 111,oL 113 112,oM 114 17,oF 115 2 6,oL 116 115,oO 117 (.idxS 8 (.t 113) (.t 114)),oF 118 7 117,oS 118 116]))) (.ops [oK 119 .add 107 1,oM 107 119]))))))) .skip)) (.seq (.drawR [(oM 120 0,([],false)),(oM 121 0,([],false)),(oN 122 121,([],false)),(oF 123 2 122,([],false)),(oL 124 123,([],true)),(oO 125 (.loadN 4 (.t 6)),([],false)),(oM 126 9,([],false)),(oM 127 15,([],false)),(oY 128 127,([],false)),(oM 129 0,([],false)),(oQ 130 206 [.t 129],([],false)),(oO 131 (.build [(.int .i64 0),(.int .i64 0),(.int .i64 0),(.int .i64 0),(.bool false),(.int .i64 0),(.int .i64 0),(.int .i64 0)] [(0,(4,(.t 125))),(5,(1,(.t 126))),(6,(1,(.t 128))),(7,(1,(.t 130)))]),([],false)),(oO 132 (.bslice 8 [(.int .i64 0),(.int .i64 0),(.int .i64 0),(.int .i64 0),(.bool false),(.int .i64 0),(.int .i64 0),(.int .i64 0)] 1 [(0,(.t 131))]),([4],false)),(oO 133 (.append 8 64 (.t 124) (.t 132)),([],false)),(oN 134 120,([],false)),(oF 135 2 134,([],false)),(oS 135 133,([],false))]) (sO [oM 136 0,oM 137 0,oN 138 136,oF 139 6 138,oU (.store 1 (.t 139) (.c (.bool false))),oN 140 137,oF 141 5 140,oU (.store 1 (.t 141) (.c (.bool false)))] (sO [oI 8 0] .ret))))))))))))
@[go_sem] theorem znl {z b h l j m d:IV} {KV:IV->List Blk->Prop} (r:cellsOf b=[b]) (h1:cellsOf h=[h]) (h2:cellsOf l=[l]) (q:cellsOf j=[j]) (s:cellsOf m=[m]) (p:cellsOf d=[d]):xop E (.bslice 1 [z] 6 [(0,.c b),(1,.c h),(2,.c l),(3,.c j),(4,.c m),(5,.c d)]) cev L KV=KV (.sl L.length 0 6 6) (L++[.cells 1 [[b],[h],[l],[j],[m],[d]]]):=by simp [xop,Zn,Z9,r,h1,h2,q,s,p,List.replicate]
theorem Bts.agree {L':List Blk} {x:IV} {rs:List (List IV)} (h:Bts L x rs) (ha:∀i,i<L.length->L'[i]?=L[i]?):Bts L' x rs:=by
 obtain ⟨⟨b,rfl,l⟩ | rfl,j,d⟩:=h
 ·exact ⟨.inl ⟨b,rfl,l.imp (fun h=>by rw [ha b (zf h)];exact h) (fun h=>by rw [ha b (zf h)];exact h)⟩,j,d⟩
 ·exact ⟨.inr rfl,j,d⟩
theorem Bts.lt {x:IV} {rs:List (List IV)} (h:Bts L x rs):∀b o n c,x=.sl b o n c->b<L.length:=by
 obtain ⟨⟨b,rfl,d⟩ | rfl,l,j⟩:=h
 ·rintro b o n c ⟨⟩;exact d.elim zf zf
 ·intro b o n c h;cases h
theorem zgr (j:E.P=Tryz.prog) {x:IV} {rs:List (List IV)} (d:Bts L x rs) {KV:IV->List Blk->Prop} (h:KV (.int .u32 (sumOf rs)) L):xop E (.pcall (.c (.fn (.func 202) [] [])) [.c x]) cev L KV:=by
 obtain ⟨⟨b,rfl,m⟩ | rfl,l⟩:=id d
 ·exact Zp (.int .u32 (sumOf rs)) rfl (fun L' ha=>z8l j (d.agree ha)) h
 ·exact zY (args':=[.isl rs]) rfl (z8l (L:=[]) j ⟨.inr rfl,l⟩) (fun _=>rfl) h
theorem z98 (h:E.P=Tryz.prog) {lg k:Nat} {f:Int} {c0 c1 c2 c4 c5 c6:IV} (b:L[lg]?=some (.cells 7 [[c0,c1,c2,.int .i64 f,c4,c5,c6]])) (d:lenOf c4=some k) {KV:IV->List Blk->Prop} (j:KV (.int .i64 (IntKind.i64.wrap (f+k))) L) :
  xop E (.pcall (.c (.fn (.func 206) [] [])) [.c (.ptr lg 0 0)]) cev L KV:=by
 refine Zp _ rfl (fun L' ha=>?_) j
 exact z5e h (by rw [ha lg (zf b)];exact b) d
theorem Zd {M:List Blk} {s n sz:Nat} {A:List (List IV)} (h:M[s]?=some (.cells sz A)) (b:A.length=n):rowsOf M (.sl s 0 n n)=some A:=by subst b;simp [rowsOf,h]
theorem Yo {sz b:Nat} {x:IV} {rs:List (List IV)} {KV:IV->List Blk->Prop} (m:rowsOf L x=some rs) (hc:yz sz rs) (d:rs≠[]) (j:rs.length*b<=70368744177664) (l:KV (.sl L.length 0 rs.length rs.length) (L++[.cells sz rs])):xop E (.append sz b (.c .nsl) (.c x)) cev L KV:=by
 show ZQ sz b .nsl x L KV
 unfold ZQ
 rw [m]
 exact ⟨hc,fun h=>absurd h d,fun _=>⟨j,l⟩⟩
theorem z9c (hP:E.P=Tryz.prog) {lg d m k:Nat} {o st f n0 B O I:Int} {c4 c5 c6 x:IV} {rs:List (List IV)} (u:L[lg]?=some (.cells 7 [[.ptr d 0 0,.int .i64 0,.nsl,.int .i64 f,c4,c5,c6]])) (hD:L[d]?=some (vK m o st)) (Y:L[m]?=some (.map [] 0))
  (h4:lenOf c4=some k) (hx:Bts L x rs) (gm:rs≠[]) (hN:rs.length+100<=70368744177664) :
  XT E 286 [.ptr lg 0 0,.int .u8 104,.agg [.int .i64 n0,.int .i64 B,.int .i64 O,.int .i64 I],x] L fun r L'=>r=.int .i64 0/\∃F' sb,ZZ L' d F' (rs.length+57)/\Grown (fun t=>t=d\/t=m) F' L L'/\
   L'[lg]?=some (.cells 7 [[.ptr d 0 0,.int .i64 0,.sl sb 0 1 1,.int .i64 f,c4,.bool false,.bool false]])/\L.length<=sb/\¬F' sb/\(∃s0 s1 s2 s3 sz la:Int,L'[sb]?=some (.cells 8 [[.int .i64 s0,.int .i64 s1,.int .i64 s2,.int .i64 s3,.bool false,.int .i64 0,.int .i64 sz,.int .i64 la]]))/\
   Keep (fun t=>t=lg\/t=d\/t=m) L L':=by
 have ll:=zg u
 have ld:=zg hD
 have lm:=zg Y
 have q1:=zo u hD (by simp [vK])
 have q2:=zo u Y (by simp)
 have q3:=zo hD Y (by simp [vK])
 have cx:cellsOf x=[x]:=hx.cell
 refine xt4 (fn:=Tryz.f286) (rs:=[.tmp 8]) (c:=zmA) hP fun ρ h0 h1 h2 h3=>?_
 unfold zmA
 simp (maxDischargeDepth:=12) only [h0,h2,u,ll,go_sem]
 refine zh (zbr (E:=E.noPan) hP (lg:=lg) (d:=d) (m:=m) (o:=o) (st:=st) (c3:=.int .i64 f) (c4:=c4) (c5:=.bool true) (c6:=.bool true) (by simp (maxDischargeDepth:=12) only [ll,go_sem]) (by simp (maxDischargeDepth:=12) only [ld,q1,hD,go_sem]) (by simp (maxDischargeDepth:=12) only [lm,q2,Y,go_sem])) ?_
 rintro r L1 ⟨rfl,hk⟩
 have S:Keep (fun t=>t=lg) L L1:=by
  refine Keep.trans ?_ hk (fun _ _ h=>h.elim)
  exact kQ
 have gq:∀b o n c,x=.sl b o n c->¬b=lg:=by
  obtain ⟨⟨b',rfl,hb⟩ | rfl,_⟩:=hx
  ·rintro b o n c ⟨⟩ rfl
   rcases hb with hb | hb<;>(rw [u] at hb;simp at hb)
  ·intro b o n c h;cases h
 have w:=hk.get (t:=lg) (k:=.cells 7 [[.ptr d 0 0,.int .i64 0,.nsl,.int .i64 f,c4,.bool true,.bool true]]) (by simp (maxDischargeDepth:=12) only [ll,go_sem]) (fun h=>h)
 have ay:=hk.get (t:=L.length) (k:=.cells 4 [[.int .i64 n0,.int .i64 B,.int .i64 O,.int .i64 I]]) (by simp (maxDischargeDepth:=12) only [ll,go_sem]<;>rfl) (fun h=>h)
 have ag:=hk.get (t:=d) (k:=vK m o st) (by simp (maxDischargeDepth:=12) only [ld,q1,hD,go_sem]) (fun h=>h)
 have ai:=hk.get (t:=m) (k:=.map [] 0) (by simp (maxDischargeDepth:=12) only [lm,q2,Y,go_sem]) (fun h=>h)
 have iy:=zg w
 have ax:=zg ay
 have kz:=zg ag
 have l9:=zg ai
 have p1:(L.length=lg)=False:=eq_false (by have:=zf u;omega)
 have p2:(L.length=d)=False:=eq_false (by have:=zf hD;omega)
 have p3:(L.length=m)=False:=eq_false (by have:=zf Y;omega)
 have gp:Bts L1 x rs:=hx.keep S gq
 simp (maxDischargeDepth:=12) only [go_sem]
 refine y7 ?_
 simp (maxDischargeDepth:=12) only [h0,h1,h3,w,ay,ax,p1,go_sem]
 obtain ⟨L2,V⟩:∃L2,L1.set L.length (Blk.cells 4 [[.int .i64 1,.int .i64 B,.int .i64 O,.int .i64 I]])=L2:=⟨_,rfl⟩
 have s:Keep (fun t=>t=L.length) L1 L2:=by rw [<-V];exact kQ
 have A:=s.get w (fun h=>of_eq_false p1 h.symm)
 have Z:=s.get ag (fun h=>of_eq_false p2 h.symm)
 have U:=s.get ai (fun h=>of_eq_false p3 h.symm)
 have ae:L2[L.length]?=some (.cells 4 [[.int .i64 1,.int .i64 B,.int .i64 O,.int .i64 I]]):=by rw [<-V];simp (maxDischargeDepth:=12) only [ax,go_sem]
 have lw:=zg A
 have mf:=zg ae
 have lq:=zg Z
 have mg:=zg U
 have bz:∀b o n c,x=.sl b o n c->¬b=L.length:=by
  intro b o n c h hb
  have:=hx.lt b o n c h
  omega
 have au:Bts L2 x rs:=gp.keep s bz
 rw [V]
 simp (maxDischargeDepth:=12) only [h3,zt hx.len,go_sem]
 refine zgr (E:=E.noPan) hP au ?_
 simp (maxDischargeDepth:=12) only [go_sem]
 refine zh (z9w (E:=E.noPan) hP (b:=L2.length) (l:=[[.int .i64 1],[.int .i64 B],[.int .i64 O],[.int .i64 I],[.int .i64 rs.length],[.int .i64 (IntKind.i64.wrap (sumOf rs))]]) (by simp (maxDischargeDepth:=12) only [go_sem]) (by simp) (by simp)) ?_
 rintro r L3 ⟨⟨g,M,rfl,dn,hgl,dm,di⟩,cu⟩
 have j:Keep none' L2 L3:=Keep.trans (Keep.app Keep.refl) cu fun _ _ h=>h
 have gy:L2.length<g:=by have:=hgl;simp only [lla,llc,lln] at this;omega
 have df:Bts L3 x rs:=au.keep0 j
 have bf:zA rs:=hx.2.1
 have v:M.length=57:=by rw [dn];rfl
 have az:=j.get A fun h=>h
 have dw:=j.get ae fun h=>h
 have eu:=j.get Z fun h=>h
 have ed:=j.get U fun h=>h
 have e5:8*[[IV.int .i64 1],[IV.int .i64 B],[IV.int .i64 O],[IV.int .i64 I],[IV.int .i64 rs.length],[IV.int .i64 (IntKind.i64.wrap (sumOf rs))]].length+9=57:=rfl
 rw [e5] at *
 simp (maxDischargeDepth:=12) only [h0,h3,go_sem]
 refine vz (rows:=M) (rs:=rs) rfl dm v df.rows bf.rowsC gm od ?_
 obtain ⟨L4,D⟩:∃L4,L3.set g .dead++[.tcells 5 1 (M++rs)]=L4:=⟨_,rfl⟩
 have l4:L4.length=L3.length+1:=by rw [<-D];simp
 have g4:L4[L3.length]?=some (.tcells 5 1 (M++rs)):=by rw [<-D];simp (maxDischargeDepth:=12) only [go_sem]
 have p:Keep (fun t=>t=g) L3 L4:=by rw [<-D];exact kQ
 have lh:=zf A
 have l7:=zf Z
 have ik:=zf U
 have gu:=zf ae
 have Q:=p.get az od
 have bu:=p.get eu od
 have bn:=p.get ed od
 have bg:=p.get dw od
 have iw:L2.length<=L3.length:=j.1
 rw [D]
 simp (maxDischargeDepth:=12) only [go_sem]
 have R:(M++rs).length=57+rs.length:=by rw [lla,v]
 refine zh (zd0 (E:=E.noPan) hP (lg:=lg) (d:=d) (F:=fun t=>t=d\/t=m) (N:=0) (rs:=M++rs) Q (by rintro (h | h);exact of_eq_false q1 h;exact of_eq_false q2 h) ⟨m,o,st,bu,.inl ⟨bn,rfl⟩⟩ ⟨.inl ⟨L3.length,by rw [R],.inr g4⟩,di.app bf,od⟩ ?_ ?_ od) ?_
 ·rintro b o n c h (rfl | rfl)<;>(simp only [IV.sl.injEq] at h;omega)
 ·intro h;have:=congrArg List.length h;simp [v] at this
 rintro r L5 ⟨rfl,⟨F',aj,af⟩,J⟩
 have q:=J.get Q (by rintro (h | h);exact of_eq_false q1 h;exact of_eq_false q2 h)
 have ak:=J.get bg (by rintro (h | h);exact of_eq_false p2 h;exact of_eq_false p3 h)
 have X:=zg q
 have lu:=zg ak
 simp (maxDischargeDepth:=12) only [h0,h1,q,ak,go_sem]
 refine z98 (E:=E.noPan) hP q h4 ?_
 simp (maxDischargeDepth:=12) only [X,go_sem]
 refine Yo (rs:=[[.int .i64 1,.int .i64 B,.int .i64 O,.int .i64 I,.bool false,.int .i64 0,.int .i64 (57+rs.length:Nat),.int .i64 (IntKind.i64.wrap (f+k))]]) (Zd (sz:=8) (by simp (maxDischargeDepth:=12) only [go_sem]) rfl) (fun r hr=>by simp at hr;subst hr;exact ⟨rfl,rfl⟩) (by simp) (by simp) ?_
 simp (maxDischargeDepth:=12) only [h0,q,X,go_sem]
 have dh:¬(lg=d\/lg=m):=by rintro (h | h);exact of_eq_false q1 h;exact of_eq_false q2 h
 have hF:¬F' lg:=af.out (by have:=j.1;have:=p.1;omega) dh
 have ku:L.length<=L1.length:=S.1
 have iq:L1.length<=L2.length:=s.1
 have ig:L3.length<=L4.length:=p.1
 have gz:L4.length<=L5.length:=J.1
 have bi:Keep (fun t=>t=lg\/t=d\/t=m) L L5:=by
  refine Keep.trans (Keep.trans (Keep.trans (Keep.trans (S.mono fun t _ h=>.inl h) s ?_) j ?_) p ?_) J ?_
  ·intro t T h;omega
  ·intro t T h;exact h.elim
  ·intro t T h;omega
  ·intro t T h;exact .inr h
 have ah:ZZ L5 d F' (rs.length+57):=by rw [R,Nat.zero_add,Nat.add_comm] at aj;exact aj
 refine ⟨F',(L5++[Blk.cells 8 [[.int .i64 1,.int .i64 B,.int .i64 O,.int .i64 I,.bool false,.int .i64 0,.int .i64 (57+rs.length:Nat),.int .i64 (IntKind.i64.wrap (f+k))]]]).length,ah.keep (G:=fun t=>t=lg) ?_ (fun t T h=>hF (h▸T)),?_,?_,?_,?_,⟨1,B,O,I,(57+rs.length:Nat),IntKind.i64.wrap (f+k),?_⟩,?_⟩
 ·exact kQ
 ·intro t T
  rcases af t T with h | ⟨h,h'⟩
  ·exact .inl h
  ·right
   simp only [lla,lls,llc,lln]
   omega
 ·rfl
 ·simp only [lla,llc,lln];omega
 ·intro h
  have hd:=zf hD
  have kw:=zf Y
  rcases af _ h with h | ⟨h,h'⟩
  ·simp only [lla,llc,lln] at h;omega
  ·simp only [lla,llc,lln] at h';omega
 ·first | rfl | simp (maxDischargeDepth:=12) only [X,go_sem]
 ·refine Keep.trans bi (F':=fun t=>t=lg) ?_ (fun t _ h=>.inl h)
  exact kQ
def zmb : XC :=(sO [oV 2 .nsl] (.seq (sO [oM 3 0,oO 4 (.isNil 0 false (.t 3))] (cT 4 (sO [oV 2 .nsl] .ret) .skip)) (sO [oO 5 (.bslice 1 [(.int .u8 0)] 0 []),oM 6 0,oO 7 (.ex (.appT 5 1) [.t 5,.t 6]),oM 2 7] .ret)))
def zht : XC :=(sO [oI 4 0] (sO [oM 7 0,oN 8 7,oF 9 5 8,oU (.store 1 (.t 9) (.c (.bool true)))] (.seq (sO [oM 10 0,oN 11 10,oF 12 2 11,oL 13 12,oY 14 13,oK 15 .gtr 14 0,oM 16 15,oG 17 16 true (.mov (.t 0)),oG 18 16 true (.nilck (.t 17)),oG 19 16 true (.fldA 6 (.t 18)),oG 20 16 true (.load1 (.t 19)),oG 21 16 true (.un .not (.t 20)),oO 22 (.pick (.t 16) (.t 21) (.c (.bool false)))] (cT 22 (.seq (.draw [oM 23 0,oN 24 23,oF 25 2 24,oL 26 25,oM 27 0,oN 28 27,oF 29 2 28,oL 30 29,oY 31 30,oK 32 .sub 31 1,oO 33 (.idxS 8 (.t 26) (.t 32)),oM 5 33]) (sO [oM 34 0,oN 35 34,oF 36 6 35,oU (.store 1 (.t 36) (.c (.bool true)))] (.seq (sO [oM 37 0,oM 38 5,oN 39 38,oF 40 5 39,oL 41 40,oM 42 1,oC 43 285 [.t 37,.t 41,.t 42],oM 6 43] (sO [oM 44 6,oK 45 .neq 44 0] (cT 45 (sO [oM 46 6,oM 4 46] .ret) .skip))) (sO [oM 47 5,oN 48 47,oF 49 6 48,oL 50 49,oM 51 1,oY 52 51,oB 53 .add 50 52,oN 54 47,oF 55 6 54,oS 55 53] (sO [oM 56 0,oM 57 0,oN 58 56,oF 59 6 58,oU (.store 1 (.t 59) (.c (.bool false))),oN 60 57,oF 61 5 60,oU (.store 1 (.t 61) (.c (.bool false)))] (sO [oI 4 0] .ret)))))) .skip)) (.seq (sO [oM 62 0,oN 63 62,oF 64 2 63,oL 65 64,oY 66 65,oK 67 .lss 66 1024] (cT 67 (.seq (.drawE [oM 68 0,oM 69 0,oN 70 69,oF 71 3 70,oL 72 71,oM 73 0,oQ 74 206 [.t 73],oO 75 (.build [(.int .i64 0),(.int .i64 0),(.int .i64 0),(.int .i64 0)] [(2,(1,(.t 72))),(3,(1,(.t 74)))]),oM 76 1,oC 77 286 [.t 68,(.c (.int .u8 104)),.t 75,.t 76],oM 4 77]) .ret) .skip)) (.seq (.drawR [(oM 78 0,([],false)),(oM 79 0,([],false)),(oN 80 79,([],false)),(oF 81 3 80,([],false)),(oL 82 81,([],true)),(oM 83 0,([],false)),(oN 84 83,([],false)),(oF 85 3 84,([],false)),(oL 86 85,([],true)),(oO 87 (.build [(.int .i64 0),(.int .i64 0),(.int .i64 0),(.int .i64 0)] [(2,(1,(.t 82))),(3,(1,(.t 86)))]),([],false)),(oM 88 0,([],false)),(oM 89 0,([],false)),(oN 90 89,([],false)),(oF 91 3 90,([],false)),(oL 92 91,([],false)),(oQ 93 287 [.t 88,.t 92],([],false)),(oM 94 1,([],false)),(oO 95 (.ex (.appT 5 1) [.t 93,.t 94]),([4,8],false)),(oQ 96 286 [.t 78,(.c (.int .u8 119)),.t 87,.t 95],([],false)),(oM 4 96,([],false))]) .ret)))))
def zlX : XC :=(.block 0 (.loop (.seq (.seq (.draw [oM 2 0,oN 3 2,oF 4 2 3,oL 5 4,oY 6 5,oK 7 .gtr 6 1,oM 8 7,oG 9 8 true (.mov (.t 0)),oG 10 8 true (.nilck (.t 9)),oG 11 8 true (.fldA 2 (.t 10)),oG 12 8 true (.load1 (.t 11)),oG 13 8 true (.idxS 8 (.t 12) (oi 0)),oG 14 8 true (.fldA 7 (.t 13)),oG 15 8 true (.load1 (.t 14)),oG 16 8 true (.mov (.t 0)),oG 17 8 true (.nilck (.t 16)),oG 18 8 true (.fldA 3 (.t 17)),oG 19 8 true (.load1 (.t 18)),oG 20 8 true (.bin .leq (.t 15) (.t 19)),oO 21 (.pick (.t 8) (.t 20) (.c (.bool false)))]) (cT 21 .skip (.exit 0))) (.block 1 (.seq (.seq (.drawE [oM 22 0,oN 23 22,oF 24 0 23,oL 25 24,oM 26 0,oN 27 26,oF 28 2 27,oL 29 28,oO 30 (.idxS 8 (.t 29) (oi 0)),oF 31 5 30,oL 32 31,oC 33 290 [.t 25,.t 32],oK 34 .neq 33 0]) (cT 34 .ret .skip)) (.ops [oM 35 0,oM 36 0,oN 37 36,oF 38 2 37,oL 39 38,oO 40 (.slice 8 (.t 39) (some (oi 1)) none),oN 41 35,oF 42 2 41,oS 42 40]))))))
theorem YU {L:List Blk} {n:Nat} {m:Ren} {rs:List (List IV)} (h:zA rs):zJ (zJ (conv L (n+1) m)) rs=some rs:=by
 refine wz fun r b=>?_
 obtain ⟨v,rfl⟩:=h r b
 rfl
theorem z0t (m:E.P=Tryz.prog) {rs:List (List IV)} (d:zA rs) (b:rs≠[]) (j:rs.length<=70368744177664):zD E 144 [.isl rs] (.isl rs):=by
 refine xu1 (fn:=Tryz.f144) (c:=zmb) (t:=2) m fun ρ p=>?_
 unfold zmb
 simp only [p,go_sem]
 refine ⟨?_,fun h=>absurd h b⟩
 refine Wy (rows:=[]) (rs:=rs) rfl (.inl rfl) rfl rfl d.rowsC b (by simpa using j) ?_
 intro k q
 have l:(0+rs.length<=rs.length):=by omega
 have r:0+(0+rs.length)<=([]++rs:List (List IV)).length:=by simp
 rcases q with rfl | rfl<;>(simp only [fuel,conv,zF,List.nil_append,Nat.zero_add,List.set_cons_zero,List.cons_append,List.getElem?_cons_succ,List.getElem?_cons_zero,Nat.le_refl,if_true,List.drop_zero,List.take_length];rw [YU d];rfl)
theorem z5M (d:E.P=Tryz.prog) {lg sb:Nat} {c0 c1 c3 c4 c5 c6:IV} (b:L[lg]?=some (.cells 7 [[c0,c1,.sl sb 0 1 1,c3,c4,c5,c6]])):XT E 226 [.ptr lg 0 0] L fun r L'=>r=.tup []/\L'=L:=by
 have j:=zg b
 refine xt1 (fn:=Tryz.f226) (rs:=[]) (c:=zlX) d fun ρ h=>?_
 unfold zlX
 refine y7 ?_
 simp only [h,b,go_sem]
 rfl
theorem z5j (G:E.P=Tryz.prog) {lg d m k:Nat} {o st f:Int} {c4 x:IV} {rs:List (List IV)} {c5 c6:IV} (l:L[lg]?=some (.cells 7 [[.ptr d 0 0,.int .i64 0,.nsl,.int .i64 f,c4,c5,c6]])) (Q:L[d]?=some (vK m o st)) (M:L[m]?=some (.map [] 0))
  (O:lenOf c4=some k) (R:Bts L x rs) (w:rs≠[]) (S:rs.length+100<=70368744177664) :
  XT E 224 [.ptr lg 0 0,x] L fun r L'=>r=.int .i64 0/\∃F' sb,ZZ L' d F' (rs.length+57)/\Grown (fun t=>t=d\/t=m) F' L L'/\
   L'[lg]?=some (.cells 7 [[.ptr d 0 0,.int .i64 0,.sl sb 0 1 1,.int .i64 f,c4,.bool false,.bool false]])/\L.length<=sb/\¬F' sb/\(∃s0 Y s2 U sz V:Int,L'[sb]?=some (.cells 8 [[.int .i64 s0,.int .i64 Y,.int .i64 s2,.int .i64 U,.bool false,.int .i64 0,.int .i64 sz,.int .i64 V]]))/\
   Keep (fun t=>t=lg\/t=d\/t=m) L L':=by
 have J:=zg l
 have q1:=zo l Q (by simp [vK])
 have Z:=zo l M (by simp)
 refine xt2 (fn:=Tryz.f224) (rs:=[.tmp 4]) (c:=zht) G fun ρ X h1=>?_
 unfold zht
 simp only [X,l,J,go_sem]
 have p:Keep (fun t=>t=lg) L (L.set lg (.cells 7 [[.ptr d 0 0,.int .i64 0,.nsl,.int .i64 f,c4,.bool true,c6]])):=kQ
 obtain ⟨L1,q⟩:∃L1,L.set lg (Blk.cells 7 [[.ptr d 0 0,.int .i64 0,.nsl,.int .i64 f,c4,.bool true,c6]])=L1:=⟨_,rfl⟩
 rw [q] at p
 rw [q]
 have j:L1[lg]?=some (.cells 7 [[.ptr d 0 0,.int .i64 0,.nsl,.int .i64 f,c4,.bool true,c6]]):=by rw [<-q];simp only [J,go_sem]
 have ae:=zg j
 have I:∀b o n c,x=.sl b o n c->¬b=lg:=by
  obtain ⟨⟨b',rfl,s⟩ | rfl,_⟩:=R
  ·rintro b o n c ⟨⟩ rfl
   rcases s with s | s<;>(rw [l] at s;simp at s)
  ·intro b o n c h;cases h
 have D:=R.keep p I
 refine z98 (E:=E.noPan) G j O ?_
 simp only [h1,go_sem]
 refine zh (z9c (E:=E.noPan) G j (p.get Q fun h=>of_eq_false q1 h.symm) (p.get M fun h=>of_eq_false Z h.symm) O D w S) ?_
 rintro r L2 ⟨rfl,F',sb,A,B,u,T,hF,hs,v⟩
 simp only [go_sem]
 have e1:L1.length=L.length:=by rw [<-q,lls]
 exact ⟨F',sb,A,fun t ht=>by rw [<-e1];exact B t ht,u,od,hF,hs,(p.mono fun t _ h=>.inl h).trans v fun t _ h=>h⟩
theorem write_next (hP:E.P=Tryz.prog) {lg d sb N:Nat} {f s0 s1 s2 s3 sz la:Int} {F:Nat->Prop} {c4 c5 x w:IV} {rs:List (List IV)} (l:L[lg]?=some (.cells 7 [[.ptr d 0 0,.int .i64 0,.sl sb 0 1 1,.int .i64 f,c4,c5,.bool false]])) (hs:L[sb]?=some (.cells 8 [[.int .i64 s0,.int .i64 s1,.int .i64 s2,.int .i64 s3,w,.int .i64 0,.int .i64 sz,.int .i64 la]]))
  (hD:ZZ L d F N) (m:¬F lg) (O:¬F sb) (X:Bts L x rs) (Q:∀b o n c,x=.sl b o n c->¬F b) (R:rs≠[]) (hN:N+rs.length<=70368744177664) :
  XT E 224 [.ptr lg 0 0,x] L fun r L'=>r=.int .i64 0/\(∃F',ZZ L' d F' (N+rs.length)/\Grown F F' L L')/\
   L'[lg]?=some (.cells 7 [[.ptr d 0 0,.int .i64 0,.sl sb 0 1 1,.int .i64 f,c4,.bool false,.bool false]])/\(∃sz:Int,L'[sb]?=some (.cells 8 [[.int .i64 s0,.int .i64 s1,.int .i64 s2,.int .i64 s3,w,.int .i64 0,.int .i64 sz,.int .i64 la]]))/\
   Keep (fun t=>t=lg\/t=sb\/F t) L L':=by
 have ll:=zg l
 have ls:=zg hs
 have Z:=zo l hs (by simp)
 have q2:=zo hs l (by simp)
 refine xt2 (fn:=Tryz.f224) (rs:=[.tmp 4]) (c:=zht) hP fun ρ h0 h1=>?_
 unfold zht
 simp only [YF,h0,h1,l,ll,hs,Z,go_sem]
 refine ⟨rfl,?_⟩
 obtain ⟨L1,p⟩:∃L1,(L.set lg (Blk.cells 7 [[.ptr d 0 0,.int .i64 0,.sl sb 0 1 1,.int .i64 f,c4,.bool true,.bool false]])).set lg (Blk.cells 7 [[.ptr d 0 0,.int .i64 0,.sl sb 0 1 1,.int .i64 f,c4,.bool true,.bool true]])=L1:=⟨_,rfl⟩
 have q:Keep (fun t=>t=lg) L L1:=by rw [<-p];exact kQ
 have j:L1[lg]?=some (.cells 7 [[.ptr d 0 0,.int .i64 0,.sl sb 0 1 1,.int .i64 f,c4,.bool true,.bool true]]):=by rw [<-p];simp only [ll,go_sem]
 rw [p]
 have Y:∀b o n c,x=.sl b o n c->¬b=lg:=by
  obtain ⟨⟨b',rfl,J⟩ | rfl,_⟩:=X
  ·rintro b o n c ⟨⟩ rfl
   rcases J with J | J<;>(rw [l] at J;simp at J)
  ·intro b o n c h;cases h
 have B:=q.get hs fun h=>of_eq_false Z h.symm
 have V:=X.keep q Y
 refine zh (zd0 (E:=E.noPan) hP j m (hD.keep q fun t A h=>m (h▸A)) V Q R hN) ?_
 rintro r L2 ⟨rfl,⟨F',T,v⟩,u⟩
 have s:=u.get j m
 have M:=u.get B O
 have S:=zg s
 have U:=zg M
 simp only [YF,h0,h1,s,M,S,U,Z,q2,zt X.len,go_sem]
 have e1:L1.length=L.length:=by rw [<-p];simp
 have D:¬F' lg:=v.out (zf j) m
 have I:¬F' sb:=v.out (zf B) O
 refine ⟨⟨F',T.keep (G:=fun t=>t=lg\/t=sb) ?_ (by rintro t A (rfl | rfl);exact D A;exact I A),?_⟩,⟨_,rfl⟩,?_⟩
 ·exact kQ
 ·intro t A
  rcases v t A with h | h
  ·exact .inl h
  ·right;simp only [lls];omega
 ·refine Keep.trans ((q.mono fun t _ h=>.inl h).trans u fun t _ h=>.inr (.inr h)) (F':=fun t=>t=lg\/t=sb) ?_ (by rintro t _ (h | h);exact .inl h;exact .inr (.inl h))
  exact kQ
def zhl : XC :=(sO [oI 4 0,oI 5 0] (.seq (sO [oM 8 1,oY 9 8,oK 10 .gtr 9 1048576] (cT 10 (sO [oM 11 0,oN 12 11,oF 13 5 12,oU (.store 1 (.t 13) (.c (.bool false)))] (sO [oI 4 0,oI 5 9] .ret)) .skip)) (sO [oM 14 0,oC 15 206 [.t 14],oM 6 15] (.seq (sO [oM 16 0,oM 17 6,oM 18 1,oC 19 225 [.t 17,.t 18],oC 20 224 [.t 16,.t 19],oM 7 20] (sO [oM 21 7,oK 22 .neq 21 0] (cT 22 (sO [oM 23 7,oI 4 0,oM 5 23] .ret) .skip))) (.seq (.drawR [(oM 24 0,([],false)),(oM 25 0,([],false)),(oN 26 25,([],false)),(oF 27 4 26,([],false)),(oL 28 27,([],true)),(oM 29 1,([],false)),(oQ 30 144 [.t 29],([],false)),(oO 31 (.bslice 1 [.nsl] 1 [(0,(.t 30))]),([4],false)),(oO 32 (.append 1 24 (.t 28) (.t 31)),([],false)),(oN 33 24,([],false)),(oF 34 4 33,([],false)),(oS 34 32,([],false))]) (.seq (.drawE [oM 35 0,oN 36 35,oF 37 2 36,oL 38 37,oM 39 0,oN 40 39,oF 41 2 40,oL 42 41,oY 43 42,oK 44 .sub 43 1,oM 45 6,oK 46 .add 45 1,oO 47 (.idxS 8 (.t 38) (.t 44)),oF 48 7 47,oS 48 46]) (sO [oM 49 0,oC 50 226 [.t 49]] (sO [oM 51 6,oM 4 51,oI 5 0] .ret))))))))
theorem yh {sz b t n:Nat} {x:IV} {rs rows:List (List IV)} {KV:IV->List Blk->Prop} (m:L[t]?=some (.cells sz rows)) (p:rows.length=n) (q:rowsOf L x=some rs) (hc:yz sz rs) (d:rs≠[]) (j:(n+rs.length)*b<=70368744177664)
  (l:KV (.sl L.length 0 (n+rs.length) (n+rs.length)) (L.set t .dead++[.cells sz (rows++rs)])):xop E (.append sz b (.c (.sl t 0 n n)) (.c x)) cev L KV:=by
 subst p
 show ZQ sz b (.sl t 0 _ _) x L KV
 unfold ZQ
 rw [q]
 have h:0<rs.length:=List.length_pos_iff.2 d
 refine ⟨hc,?_⟩
 simp only [m]
 refine ⟨trivial,od,?_⟩
 rw [if_neg od]
 refine ⟨j,?_⟩
 simpa using l
def VT (L:List Blk) (lg:Nat) (F:Nat->Prop) (N:Nat):Prop:=∃d,
 (∃m o st,L[lg]?=some (.cells 7 [[.ptr d 0 0,.int .i64 0,.nsl,.int .i64 0,.nsl,.bool false,.bool false]])/\L[d]?=some (vK m o st)/\L[m]?=some (.map [] 0)/\F=fun t=>t=lg\/t=d\/t=m)\/
 ∃sb rb k FD rows,∃s0 s1 s2 s3 sz la:Int,L[lg]?=some (.cells 7 [[.ptr d 0 0,.int .i64 0,.sl sb 0 1 1,.int .i64 0,.sl rb 0 k k,.bool false,.bool false]])/\
  L[sb]?=some (.cells 8 [[.int .i64 s0,.int .i64 s1,.int .i64 s2,.int .i64 s3,.bool false,.int .i64 0,.int .i64 sz,.int .i64 la]])/\L[rb]?=some (.cells 1 rows)/\rows.length=k/\yz 1 rows/\k<=N/\
  ZZ L d FD N/\¬FD lg/\¬FD sb/\¬FD rb/\F=fun t=>t=lg\/t=sb\/t=rb\/FD t
theorem VT.lt {lg:Nat} {F:Nat->Prop} {N:Nat} (h:VT L lg F N):lg<L.length/\F lg/\∀t,F t->t<L.length:=by
 obtain ⟨d,⟨m,o,st,h1,h2,b,rfl⟩ | ⟨sb,rb,k,FD,rows,s0,u,A,r,sz,B,h1,h2,b,s,v,q,j,p,w,l,rfl⟩⟩:=h
 ·refine ⟨zf h1,.inl rfl,?_⟩
  rintro t (rfl | rfl | rfl)
  ·exact zf h1
  ·exact zf h2
  ·exact zf b
 ·refine ⟨zf h1,.inl rfl,?_⟩
  rintro t (rfl | rfl | rfl | h)
  ·exact zf h1
  ·exact zf h2
  ·exact zf b
  ·exact j.lt.2.2 t h
theorem VT.keep {lg:Nat} {F G:Nat->Prop} {N:Nat} {L':List Blk} (h:VT L lg F N) (j:Keep G L L') (b:∀t,F t->¬G t):VT L' lg F N:=by
 obtain ⟨d,⟨m,o,st,h1,h2,l,rfl⟩ | ⟨sb,rb,k,FD,rows,s0,v,I,s,sz,J,h1,h2,l,u,w,r,A,q,B,p,rfl⟩⟩:=h
 ·exact ⟨d,.inl ⟨m,o,st,j.get h1 (b _ (.inl rfl)),j.get h2 (b _ (.inr (.inl rfl))),j.get l (b _ (.inr (.inr rfl))),rfl⟩⟩
 ·exact ⟨d,.inr ⟨sb,rb,k,FD,rows,s0,v,I,s,sz,J,j.get h1 (b _ (.inl rfl)),j.get h2 (b _ (.inr (.inl rfl))),j.get l (b _ (.inr (.inr (.inl rfl)))),u,w,r,A.keep j fun t D=>b t (.inr (.inr (.inr D))),q,B,p,rfl⟩⟩
theorem ZZ.mono {d N N':Nat} {F:Nat->Prop} (h:ZZ L d F N) (l:N<=N'):ZZ L d F N':=by
 obtain ⟨m,o,st,h1,h2⟩:=h
 refine ⟨m,o,st,h1,h2.imp id ?_⟩
 rintro ⟨f,b,p,rows,u,q,r,j,s⟩
 exact ⟨f,b,p,rows,u,q,r,Nat.le_trans j l,s⟩
theorem z0v (D:E.P=Tryz.prog) {lg N:Nat} {F:Nat->Prop} {rs:List (List IV)} (hL:VT L lg F N) (A:zA rs) (ai:rs≠[]) (hsz:rs.length<=1048576) (hN:N+rs.length+200<=1099511627776) :
  XT E 165 [.ptr lg 0 0,.isl rs] L fun r L'=>(∃n:Int,r=.tup [.int .i64 n,.int .i64 0])/\(∃F',VT L' lg F' (N+rs.length+200)/\Grown F F' L L')/\Keep F L L':=by
 have g1:((1048576:Int)<(rs.length:Int))=False:=fO
 have hx:Bts L (.isl rs) rs:=⟨.inr rfl,A,od⟩
 have bi:ZZ L 0 F 0->True:=fun _=>trivial
 obtain ⟨d,⟨m,o,st,q,hD,hm,rfl⟩ | ⟨sb,rb,k,FD,rows,s0,s1,s2,s3,sz,la,q,hs,T,ah,ak,bf,hD,ag,af,ae,rfl⟩⟩:=hL
 ·have ll:=zg q
  have lx:lenOf (.isl rs)=some rs.length:=rfl
  refine xt2 (fn:=Tryz.f165) (rs:=[.tmp 4,.tmp 5]) (c:=zhl) D fun ρ S h1=>?_
  unfold zhl
  simp (maxDischargeDepth:=12) only [S,h1,g1,zt lx,go_sem]
  refine zh (z5e (E:=E.noPan) D q rfl) ?_
  rintro r L1 ⟨rfl,rfl⟩
  simp (maxDischargeDepth:=12) only [YF,S,h1,go_sem]
  refine zh (z3M (E:=E.noPan) D hx od) ?_
  rintro r L2 ⟨⟨g,M,rfl,J,hgl,V,U⟩,p⟩
  simp (maxDischargeDepth:=12) only [YF,go_sem]
  have X:Bts L2 (.sl g 0 (rs.length+25) (rs.length+25)) M:=by rw [<-J];exact .mk' (.inr V) U od
  have Q:M≠[]:=by intro h;subst h;simp at J
  have q1:=zo q hD (by simp [vK])
  have q2:=zo q hm (by simp)
  refine zh (z5j (E:=E.noPan) D (p.get q fun h=>h) (p.get hD fun h=>h) (p.get hm fun h=>h) rfl X Q od) ?_
  rintro r L3 ⟨rfl,F',sb,O,v,j,bu,hF,⟨s0,s1,s2,s3,sz,la,l⟩,B⟩
  have s:=zg j
  have w:=zg l
  have q3:=zo j l (by simp)
  have q4:=zo l j (by simp)
  simp (maxDischargeDepth:=12) only [YF,S,h1,j,go_sem]
  refine zY (E:=E.noPan) (args':=[.isl rs]) rfl (z0t D A ai od) (fun _=>rfl) ?_
  simp (maxDischargeDepth:=12) only [YF,s,cellsOf,go_sem]
  refine Yo (rs:=[[.isl rs]]) (Zd (sz:=1) (by simp (maxDischargeDepth:=12) only [go_sem]) rfl) (fun r A=>by simp at A;subst A;exact ⟨rfl,rfl⟩) (by simp) (by simp) ?_
  simp (maxDischargeDepth:=12) only [YF,S,j,s,l,w,q3,go_sem]
  refine zh (z5M (E:=E.noPan) D (lg:=lg) (sb:=sb) (by simp (maxDischargeDepth:=12) only [s,q4,go_sem]<;>rfl)) ?_
  rintro r L4 ⟨rfl,rfl⟩
  simp (maxDischargeDepth:=12) only [YF,go_sem]
  have e2:L1.length<=L2.length:=p.1
  have e4:=zf l
  have e3:L2.length<=L3.length:=B.1
  have ay:=zf q
  have I:¬F' lg:=v.out od (by rintro (h | h);exact of_eq_false q1 h;exact of_eq_false q2 h)
  have Y:¬F' (L3++[Blk.cells 1 [[.isl rs]]]).length:=fun h=>by
   have Z:=O.lt.2.2 _ h
   simp only [lla,llc,lln] at Z
   omega
  refine ⟨⟨_,rfl⟩,⟨_,⟨d,.inr ⟨sb,(L3++[Blk.cells 1 [[.isl rs]]]).length,1,F',[[.isl rs]],s0,s1,s2,s3,sz,1,?_,?_,?_,rfl,?_,od,(O.mono (N':=N+rs.length+200) od).keep (G:=fun t=>t=lg\/t=sb) ?_ ?_,I,hF,Y,rfl⟩⟩,?_⟩,?_⟩
  ·simp (maxDischargeDepth:=12) only [s,q4,go_sem]
  ·simp (maxDischargeDepth:=12) only [w,go_sem]
  ·simp (maxDischargeDepth:=12) only [s,w,go_sem]
  ·intro r A;simp at A;subst A;exact ⟨rfl,rfl⟩
  ·exact kQ
  ·rintro t R (rfl | rfl)
   ·exact I R
   ·exact hF R
  ·rintro t (rfl | rfl | rfl | R)
   ·exact .inl (.inl rfl)
   ·right;simp only [lla,lls,llc,lln];omega
   ·right;simp only [lla,lls,llc,lln];omega
   ·rcases v t R with (rfl | rfl) | h
    ·exact .inl (.inr (.inl rfl))
    ·exact .inl (.inr (.inr rfl))
    ·right;simp only [lla,lls,llc,lln];omega
  ·refine Keep.trans ((p.mono fun t _ h=>h.elim).trans B fun t _ h=>h) (F':=fun t=>t=lg\/t=sb) ?_ (by rintro t ax (h | h);exact .inl h;omega)
   exact kQ
 ·have ll:=zg q
  have lx:lenOf (.isl rs)=some rs.length:=rfl
  refine xt2 (fn:=Tryz.f165) (rs:=[.tmp 4,.tmp 5]) (c:=zhl) D fun ρ S h1=>?_
  unfold zhl
  simp (maxDischargeDepth:=12) only [S,h1,g1,zt lx,go_sem]
  refine zh (z5e (E:=E.noPan) D q rfl) ?_
  rintro r L1 ⟨rfl,rfl⟩
  simp (maxDischargeDepth:=12) only [S,h1,go_sem]
  refine zh (z3M (E:=E.noPan) D hx od) ?_
  rintro r L2 ⟨⟨g,M,rfl,J,hgl,V,U⟩,p⟩
  simp (maxDischargeDepth:=12) only [go_sem]
  have X:Bts L2 (.sl g 0 (rs.length+25) (rs.length+25)) M:=by rw [<-J];exact .mk' (.inr V) U od
  have Q:M≠[]:=by intro h;subst h;simp at J
  have au:=hD.lt
  refine zh (write_next (E:=E.noPan) D (p.get q fun h=>h) (p.get hs fun h=>h) (hD.keep p fun _ _ h=>h) ag af X (fun b o n c h hb=>by simp only [IV.sl.injEq] at h;have:=au.2.2 b hb;omega) Q od) ?_
  rintro r L3 ⟨rfl,⟨F',O,v⟩,j,⟨sz,l⟩,B⟩
  have ay:=zf q
  have bg:=zf hs
  have bn:=zf T
  have n1:¬rb=lg:=of_eq_false (zo T q (by simp))
  have n2:¬rb=sb:=of_eq_false (zo T hs (by simp))
  have u:=B.get (p.get T fun h=>h) (by rintro (h | h | h);exact n1 h;exact n2 h;exact ae h)
  have s:=zg j
  have w:=zg l
  have az:=zg u
  have q3:=zo j l (by simp)
  have q4:=zo l j (by simp)
  have q5:=zo j u (by simp)
  have q6:=zo u j (by simp)
  have q7:=zo u l (by simp)
  have q8:=zo l u (by simp)
  simp (maxDischargeDepth:=12) only [S,h1,j,go_sem]
  refine zY (E:=E.noPan) (args':=[.isl rs]) rfl (z0t D A ai od) (fun _=>rfl) ?_
  simp (maxDischargeDepth:=12) only [s,cellsOf,go_sem]
  refine yh (rows:=rows) (rs:=[[.isl rs]]) (by simp (maxDischargeDepth:=12) only [az,u,go_sem]) ah (Zd (sz:=1) (by simp (maxDischargeDepth:=12) only [go_sem]) rfl) (fun r A=>by simp at A;subst A;exact ⟨rfl,rfl⟩) (by simp) (by simp;omega) ?_
  simp (maxDischargeDepth:=12) only [YF,S,j,s,l,w,q3,q6,q7,go_sem]
  refine zh (z5M (E:=E.noPan) D (lg:=lg) (sb:=sb) (by simp (maxDischargeDepth:=12) only [s,q4,go_sem]<;>rfl)) ?_
  rintro r L4 ⟨rfl,rfl⟩
  simp (maxDischargeDepth:=12) only [YF,go_sem]
  have e2:L1.length<=L2.length:=p.1
  have e4:=zf l
  have e3:L2.length<=L3.length:=B.1
  have I:¬F' lg:=v.out od ag
  have aj:¬F' sb:=v.out od af
  have Y:¬F' (L3++[Blk.cells 1 [[.isl rs]]]).length:=fun h=>by
   have Z:=O.lt.2.2 _ h
   simp only [lla,llc,lln] at Z
   omega
  refine ⟨⟨_,rfl⟩,⟨_,⟨d,.inr ⟨sb,(L3++[Blk.cells 1 [[.isl rs]]]).length,k+1,F',rows++[[.isl rs]],s0,s1,s2,s3,sz,IntKind.i64.wrap (IntKind.i64.wrap (0+k)+1),?_,?_,?_,by simp [ah],?_,?_,(O.mono (N':=N+rs.length+200) od).keep (G:=fun t=>t=lg\/t=sb\/t=rb) ?_ ?_,I,aj,Y,rfl⟩⟩,?_⟩,?_⟩
  ·simp (maxDischargeDepth:=12) only [s,q4,go_sem]
  ·simp (maxDischargeDepth:=12) only [w,go_sem]
  ·simp (maxDischargeDepth:=12) only [s,w,go_sem]
  ·intro r A
   rcases List.mem_append.1 A with h | h
   ·exact ak r h
   ·simp at h;subst h;exact ⟨rfl,rfl⟩
  ·omega
  ·exact kQ
  ·rintro t R (rfl | rfl | rfl)
   ·exact I R
   ·exact aj R
   ·exact v.out od ae R
  ·rintro t (rfl | rfl | rfl | R)
   ·exact .inl (.inl rfl)
   ·exact .inl (.inr (.inl rfl))
   ·right;simp only [lla,lls,llc,lln];omega
   ·rcases v t R with h | h
    ·exact .inl (.inr (.inr (.inr h)))
    ·right;simp only [lla,lls,llc,lln];omega
  ·refine Keep.trans ((p.mono fun t _ h=>h.elim).trans (F:=fun t=>t=lg\/t=sb\/t=rb\/FD t) B (by rintro t _ (h | h | h);exact .inl h;exact .inr (.inl h);exact .inr (.inr (.inr h)))) (F':=fun t=>t=lg\/t=sb\/t=rb) ?_ (by rintro t ax (h | h | h);exact .inl h;exact .inr (.inl h);exact .inr (.inr (.inl h)))
   exact kQ
def zl0 : XC :=(.seq (sO [oM 9 1,oM 10 2,oB 11 .lss 9 10,oM 12 11,oG 13 12 false (.mov (.t 1)),oG 14 12 false (.mov (.t 3)),oG 15 12 false (.bin .gtr (.t 13) (.t 14)),oO 16 (.pick (.t 12) (.c (.bool true)) (.t 15))] (cT 16 (.ops [oO 17 (.build [(.int .i64 0)] []),oO 18 (.ex (.mkif 274) [.t 17]),oU (.ex .panic [.t 18])]) .skip)) (sO [oI 8 0] (.seq (.block 0 (.loop (.seq (sO [oM 19 1,oM 20 8,oO 21 (.bin .mul (oi 8) (.t 20)),oB 22 .shr 19 21,oK 23 .gtr 22 0] (cT 23 .skip (.exit 0))) (.block 1 (.ops [oM 24 8,oK 25 .add 24 1,oM 8 25]))))) (sO [oM 26 0,oM 27 0,oN 28 27,oF 29 0 28,oL 30 29,oM 31 8,oO 32 (.cvInt .u8 (.t 31)),oO 33 (.bslice 1 [(.int .u8 0)] 1 [(0,(.t 32))]),oO 34 (.ex (.appT 5 1) [.t 30,.t 33]),oN 35 26,oF 36 0 35,oS 36 34] (.block 2 (.loop (.seq (sO [oM 37 8,oK 38 .gtr 37 0] (cT 38 .skip (.exit 2))) (.block 3 (sO [oM 39 8,oK 40 .sub 39 1,oM 8 40] (.drawR [(oM 41 0,([],false)),(oM 42 0,([],false)),(oN 43 42,([],false)),(oF 44 0 43,([],false)),(oL 45 44,([],true)),(oM 46 1,([],false)),(oM 47 8,([],false)),(oO 48 (.bin .mul (oi 8) (.t 47)),([],false)),(oB 49 .shr 46 48,([],false)),(oO 50 (.cvInt .u8 (.t 49)),([],false)),(oO 51 (.bslice 1 [(.int .u8 0)] 1 [(0,(.t 50))]),([4],false)),(oO 52 (.ex (.appT 5 1) [.t 45,.t 51]),([],false)),(oN 53 41,([],false)),(oF 54 0 53,([],false)),(oS 54 52,([],false))]))))))))))
def zjE : XC :=(.ops [oM 4 0,oM 5 1,oC 6 102 [.t 4,.t 5,(oi 0),(oi 4503599627370496)]])
def zjH : XC :=(sO [oM 4 0,oM 5 1,oO 6 (.lenS (.t 5)),oC 7 102 [.t 4,.t 6,(oi 0),(oi 1048576)]] (.ops [oM 8 0,oM 9 0,oN 10 9,oF 11 0 10,oL 12 11,oM 13 1,oO 14 (.ex (.appT 5 1) [.t 12,.t 13]),oN 15 8,oF 16 0 15,oS 16 14]))
def zn (n:Nat):Nat:=if h:n=0 then 0 else zn (n / 256)+1
 termination_by n
 decreasing_by omega
theorem WI (n:Nat):∀s:Nat,0<n / 256^s↔s<zn n:=by
 induction n using Nat.strongRecOn with
 | _ n b=>
  intro s
  rw [zn]
  by_cases h:n=0
  ·rw [dif_pos h,h];simp
  ·rw [dif_neg h]
   cases s with
   | zero=>simp;omega
   | succ s=>
    have h1:=b (n / 256) od s
    rw [show n / 256^(s+1)=n / 256 / 256^s by rw [Nat.pow_succ,Nat.mul_comm,Nat.div_div_eq_div_mul]]
    omega
theorem Zj {n k:Nat} (h:n<256^k):zn n<=k:=by
 rcases Nat.lt_or_ge k (zn n) with h1 | h1
 ·have:=(WI n k).2 h1
  rw [Nat.div_eq_of_lt h] at this
  omega
 ·exact h1
theorem z6j {n s:Nat} (hs:s<=8):zav .i64 (n:Int) ((8*s:Nat):Int)=((n / 256^s:Nat):Int):=by
 have b:IntKind.i64.bits=64:=rfl
 have e1:((8*s:Nat):Int).toNat=8*s:=by omega
 have d:min (8*s) 64=8*s:=by omega
 unfold zav
 rw [b,e1,d,Int.pow_mul]
 show (n:Int).fdiv ((256:Int)^s)=_
 rw [Int.fdiv_eq_ediv_of_nonneg _ (Int.le_of_lt (Int.pow_pos (by decide)))]
 norm_cast
def zL (n:Nat):List (List IV):=[.int .u8 (zn n)]::((List.range' 0 (zn n)).reverse.map fun i=>[IV.int .u8 (n / 256^i%256:Nat)])
theorem zO (n:Nat):zA (zL n):=by
 intro r b
 rcases List.mem_cons.1 b with rfl | b
 ·exact ⟨_,rfl⟩
 ·obtain ⟨i,_,rfl⟩:=List.mem_map.1 b
  exact ⟨_,rfl⟩
theorem zM (n:Nat):(zL n).length=zn n+1:=by simp [zL]
def yX (L:List Blk) (p:Nat) (F:Nat->Prop) (bs:List (List IV)):Prop:=∃v,L[p]?=some (.cells 1 [[v]])/\zA bs/\
 ((v=.nsl/\bs=[]/\F=fun t=>t=p)\/∃g,v=.sl g 0 bs.length bs.length/\(L[g]?=some (.cells 1 bs)\/L[g]?=some (.tcells 5 1 bs))/\bs≠[]/\¬g=p/\F=fun t=>t=p\/t=g)
theorem yX.lt {p:Nat} {F:Nat->Prop} {bs:List (List IV)} (h:yX L p F bs):p<L.length/\F p/\∀t,F t->t<L.length:=by
 obtain ⟨v,h1,_,⟨_,_,rfl⟩ | ⟨g,_,h2,_,_,rfl⟩⟩:=h
 ·exact ⟨zf h1,rfl,by rintro t rfl;exact zf h1⟩
 ·refine ⟨zf h1,.inl rfl,?_⟩
  rintro t (rfl | rfl)
  ·exact zf h1
  ·exact h2.elim zf zf
theorem yX.keep {p:Nat} {F G:Nat->Prop} {bs:List (List IV)} {L':List Blk} (h:yX L p F bs) (b:Keep G L L') (d:∀t,F t->¬G t):yX L' p F bs:=by
 obtain ⟨v,h1,l,⟨h2,j,rfl⟩ | ⟨g,h2,j,q,m,rfl⟩⟩:=h
 ·exact ⟨v,b.get h1 (d _ rfl),l,.inl ⟨h2,j,rfl⟩⟩
 ·exact ⟨v,b.get h1 (d _ (.inl rfl)),l,.inr ⟨g,h2,j.imp (fun h=>b.get h (d _ (.inr rfl))) (fun h=>b.get h (d _ (.inr rfl))),q,m,rfl⟩⟩
theorem r1 {m s:Nat} {f:Nat->List IV}:((List.range' s (m+1)).reverse.map f)=((List.range' (s+1) m).reverse.map f)++[f s]:=by
 rw [List.range'_succ,List.reverse_cons,List.map_append];rfl
theorem wrap_u8 (n:Nat):IntKind.u8.wrap (n:Int)=((n%256:Nat):Int):=by
 simp [IntKind.wrap,IntKind.signed,IntKind.bits]
theorem Jy {p g:Nat} {F:Nat->Prop} {v x:IV} {bs rs:List (List IV)} {K:IV->List Blk->Prop} (l:L[p]?=some (.cells 1 [[v]])) (h:yX L p F bs) (m:zA rs) (d:rs≠[]) (s:rowsOf L x=some rs) (q:bs.length+rs.length<=70368744177664)
  (hg:L.length=g) (r:∀(M:List Blk) (k:Blk),M.length=g->Keep (fun t=>F t/\t≠p) L M->(k=.cells 1 (bs++rs)\/k=.tcells 5 1 (bs++rs))->K (.sl g 0 (bs.length+rs.length) (bs.length+rs.length)) (M++[k])):Yj 5 1 v x g L K:=by
 obtain ⟨A,h1,B,⟨rfl,rfl,rfl⟩ | ⟨b,rfl,w,D,u,rfl⟩⟩:=h
 ·rw [l] at h1;simp at h1;subst h1
  refine JB hg s m.rowsC d (by simpa using q) ?_
  have:=r L (.tcells 5 1 ([]++rs)) hg Keep.refl (.inr rfl)
  simpa using this
 ·rw [l] at h1;simp at h1;subst h1
  refine Wy hg w rfl s m.rowsC d (by simpa using q) ?_
  intro k j
  exact r (L.set b .dead) k (by rw [lls,hg]) (Keep.set Keep.refl fun _=>⟨.inr rfl,u⟩) j
theorem z1k {M:List Blk} {p g n:Nat} {v:IV} {bs:List (List IV)} {k:Blk} (d:M[p]?=some (.cells 1 [[v]])) (m:k=.cells 1 bs\/k=.tcells 5 1 bs) (h:zA bs) (b:bs≠[]) (hg:M.length=g) (l:bs.length=n) :
  yX ((M++[k]).set p (.cells 1 [[.sl g 0 n n]])) p (fun t=>t=p\/t=g) bs:=by
 subst hg;subst l
 have j:=zf d
 refine ⟨_,?_,h,.inr ⟨M.length,rfl,?_,b,od,rfl⟩⟩
 ·rw [List.getElem?_set_self (by rw [lla];omega)]
 ·rw [List.getElem?_set_ne od,List.getElem?_append_right (Nat.le_refl _)]
  rcases m with rfl | rfl
  ·left;simp
  ·right;simp
theorem WU (hP:E.P=Tryz.prog) {p n:Nat} {F:Nat->Prop} {bs:List (List IV)} {d l:Int} (h:yX L p F bs) (h1:d<=(n:Int)) (h2:(n:Int)<=l) (hn:n<256^7) (hN:bs.length+100<=70368744177664) :
  XT E 102 [.ptr p 0 0,.int .i64 n,.int .i64 d,.int .i64 l] L fun r L'=>r=.tup []/\(∃F',yX L' p F' (bs++zL n)/\Grown F F' L L')/\Keep F L L':=by
 have f1:((n:Int)<d)=False:=fO
 have f2:(l<(n:Int))=False:=fO
 have ag:=Zj hn
 refine xt4 (fn:=Tryz.f102) (rs:=[]) (c:=zl0) hP fun ρ A h1 h2 h3=>?_
 unfold zl0
 simp only [h1,h2,h3,f1,f2,go_sem]
 obtain ⟨v,T,af,_⟩:=id h
 have lp:=zg T
 refine zC (fun m ρ L'=>∃s:Nat,s<=zn n/\m=zn n - s/\L'=L/\ρ 0=.ptr p 0 0/\ρ 1=.int .i64 n/\ρ 8=.int .i64 s) ⟨0,Nat.zero_le _,rfl,rfl,by simp only [A,go_sem],by simp only [h1,go_sem],by simp only [go_sem]<;>rfl⟩ ?_
 clear A h1 h2 h3 ρ
 rintro m ρ L' ⟨s,hs,rfl,rfl,A,h1,I⟩
 have Y:IntKind.i64.wrap (8*(s:Int))=((8*s:Nat):Int):=wR
 have Z:=z6j (n:=n) (s:=s) od
 by_cases hc:s<zn n
 ·have f:((0:Int)<((n / 256^s:Nat):Int))=True:=eq_true (by have:=(WI n s).2 hc;omega)
  have w1:IntKind.i64.wrap ((s:Int)+1)=((s+1:Nat):Int):=wR
  simp only [A,h1,I,Y,Z,f,w1,go_sem]
  exact ⟨zn n - (s+1),od,s+1,od,rfl,rfl⟩
 ·have f:((0:Int)<((n / 256^s:Nat):Int))=False:=eq_false (by have:=show ¬0<n / 256^s from (fun h=>hc ((WI n s).1 h));omega)
  have R:s=zn n:=by omega
  have wu:IntKind.u8.wrap (s:Int)=(zn n:Int):=by rw [R,wrap_u8,Nat.mod_eq_of_lt od]
  simp only [A,h1,I,Y,Z,f,T,wu,go_sem]
  have ai:=hN
  refine Jy (rs:=[[.int .u8 (zn n)]]) (by simp only [T,lp,go_sem]) (h.keep (G:=none') kP fun _ _ h=>h) (fun r q=>by simp at q;exact ⟨_,q⟩) (by simp) (ZM (by simp only [go_sem]) rfl) (by simp;omega) rfl ?_
  intro M k S j hk
  have b:M[p]?=some (.cells 1 [[v]]):=j.get (by simp only [lp,T,go_sem]) fun h=>h.2 rfl
  have B:=zg b
  simp only [b,B,go_sem]
  have ae:(bs++[[IV.int .u8 (zn n)]]).length=bs.length+1:=by simp
  have V:zA (bs++[[IV.int .u8 (zn n)]]):=af.app (fun r q=>by simp at q;exact ⟨_,q⟩)
  have O:=h.lt
  have ah:(L'++[Blk.cells 1 [[IV.int .u8 (zn n)]]]).length=L'.length+1:=by simp
  refine zC (fun m ρ L2=>∃s:Nat,s<=zn n/\m=s/\ρ 0=.ptr p 0 0/\ρ 1=.int .i64 n/\ρ 8=.int .i64 s/\∃F',yX L2 p F' (bs++([.int .u8 (zn n)]::((List.range' s (zn n - s)).reverse.map fun i=>[IV.int .u8 (n / 256^i%256:Nat)])))/\Grown F F' L' L2/\Keep F L' L2)
   ⟨s,od,rfl,by simp only [A,go_sem],by simp only [h1,go_sem],by simp only [I,go_sem],fun t=>t=p\/t=(L'++[Blk.cells 1 [[IV.int .u8 (zn n)]]]).length,?_,?_,?_⟩ ?_
  ·have:=z1k b hk V (by simp) S (n:=bs.length+1) ae
   rw [R,Nat.sub_self]
   exact this
  ·rintro t (rfl | rfl)
   ·exact .inl O.2.1
   ·right;have:=S;simp only [lls,lla,llc,lln] at this ⊢;omega
  ·have k1:Keep F L' M:=Keep.trans (Keep.app Keep.refl) (j.mono (F':=F) fun t _ h=>h.1) fun _ _ h=>h
   exact Keep.set (Keep.app k1) fun _=>O.2.1
  clear A h1 I j b B S hk Y Z f T lp wu hs hc R M k ρ s
  rintro m ρ L2 ⟨s,hs,rfl,A,h1,I,F',u,X,J⟩
  obtain ⟨v2,D,U,_⟩:=id u
  have Q:=zg D
  cases m with
  | zero=>
   have f:((0:Int)<((0:Nat):Int))=False:=fO
   simp only [I,go_sem]
   rw [Nat.sub_zero] at u
   exact ⟨⟨F',u,X⟩,J⟩
  | succ s=>
   have f:((0:Int)<((s+1:Nat):Int))=True:=tO
   have w:IntKind.i64.wrap (((s+1:Nat):Int) - 1)=(s:Int):=wR
   have Y:IntKind.i64.wrap (8*(s:Int))=((8*s:Nat):Int):=wR
   have Z:=z6j (n:=n) (s:=s) od
   have wu:=wrap_u8 (n / 256^s)
   simp only [A,h1,I,f,w,Y,Z,wu,D,Q,go_sem]
   refine Jy (rs:=[[.int .u8 (n / 256^s%256:Nat)]]) (by simp only [D,Q,go_sem]) (u.keep (G:=none') kP fun _ _ h=>h) (fun r q=>by simp at q;exact ⟨_,q⟩) (by simp) (ZM (by simp only [go_sem]) rfl) (by simp;omega) rfl ?_
   intro M k S j hk
   have b:M[p]?=some (.cells 1 [[v2]]):=j.get (by simp only [Q,D,go_sem]) fun h=>h.2 rfl
   have B:=zg b
   simp only [A,h1,I,b,B,go_sem]
   refine ⟨s,od,s,od,rfl,rfl,fun t=>t=p\/t=(L2++[Blk.cells 1 [[IV.int .u8 (n / 256^s%256:Nat)]]]).length,?_,?_,?_⟩
   ·have e1:zn n - s=(zn n - (s+1))+1:=by omega
    rw [e1,r1,<-List.cons_append,<-List.append_assoc]
    refine z1k b hk (U.app (fun r q=>by simp at q;exact ⟨_,q⟩)) (by simp) S (by simp;try omega)
   ·rintro t (rfl | rfl)
    ·exact .inl O.2.1
    ·right;have:=S;have:=J.1;simp only [lls,lla,llc,lln] at *;omega
   ·have k1:Keep F' L2 M:=Keep.trans (Keep.app Keep.refl) (j.mono (F':=F') fun t _ h=>h.1) fun _ _ h=>h
    have k2:=Keep.set (s:=p) (k:=.cells 1 [[.sl (L2++[Blk.cells 1 [[IV.int .u8 (n / 256^s%256:Nat)]]]).length 0 ((bs++([.int .u8 (zn n)]::((List.range' (s+1) (zn n - (s+1))).reverse.map fun i=>[IV.int .u8 (n / 256^i%256:Nat)]))).length+[[IV.int .u8 (n / 256^s%256:Nat)]].length) ((bs++([.int .u8 (zn n)]::((List.range' (s+1) (zn n - (s+1))).reverse.map fun i=>[IV.int .u8 (n / 256^i%256:Nat)]))).length+[[IV.int .u8 (n / 256^s%256:Nat)]].length)]]) (Keep.app (k:=k) k1) fun _=>u.lt.2.1
    refine J.trans k2 fun t ht h=>?_
    rcases X t h with h | h
    ·exact h
    ·omega
theorem YG (b:E.P=Tryz.prog) {p n:Nat} {F:Nat->Prop} {bs:List (List IV)} (h:yX L p F bs) (m:n<=4503599627370496) (d:bs.length+100<=70368744177664) :
  XT E 107 [.ptr p 0 0,.int .i64 n] L fun r L'=>r=.tup []/\(∃F',yX L' p F' (bs++zL n)/\Grown F F' L L')/\Keep F L L':=by
 refine xt2 (fn:=Tryz.f107) (rs:=[]) (c:=zjE) b fun ρ j h1=>?_
 unfold zjE
 simp only [j,h1,go_sem]
 refine zh (WU (E:=E.noPan) b h od od od d) ?_
 rintro r L' ⟨rfl,h2,l⟩
 simp only [go_sem]
 exact ⟨h2,l⟩
def zH (s:List UInt8):List (List IV):=zL s.length++zk s
theorem Zm (s:List UInt8):zA (zk s):=by
 intro r d
 obtain ⟨b,_,rfl⟩:=List.mem_map.1 d
 exact ⟨_,rfl⟩
theorem vg {s:Nat} {k:Blk} (h:L[s]?=some k):L.set s k=L:=by
 apply List.ext_getElem?
 intro i
 by_cases hi:s=i
 ·subst hi;rw [List.getElem?_set_self (zf h),h]
 ·rw [List.getElem?_set_ne hi]
theorem yX.cell {p:Nat} {F:Nat->Prop} {v:IV} {bs:List (List IV)} (h:yX L p F bs) (d:L[p]?=some (.cells 1 [[v]])):cellsOf v=[v]/\zG v=true:=by
 obtain ⟨q,h1,m,⟨rfl,rfl,rfl⟩ | ⟨b,rfl,l,r,j,rfl⟩⟩:=h
 ·rw [d] at h1;simp at h1;subst h1;exact ⟨rfl,rfl⟩
 ·rw [d] at h1;simp at h1;subst h1;exact ⟨rfl,rfl⟩
theorem zc0 {p g:Nat} {F:Nat->Prop} {v x:IV} {bs:List (List IV)} {K:IV->List Blk->Prop} (q:L[p]?=some (.cells 1 [[v]])) (h:yX L p F bs) (m:rowsOf L x=some []) (l:K v L):Yj 5 1 v x g L K:=by
 have d:yz 1 []:=fun r s=>by cases s
 obtain ⟨u,h1,w,⟨rfl,rfl,rfl⟩ | ⟨b,rfl,j,A,B,rfl⟩⟩:=h
 ·rw [q] at h1;simp at h1;subst h1
  unfold Yj
  simp only [m]
  exact ⟨d,fun _=>l,fun h=>absurd rfl h⟩
 ·rw [q] at h1;simp at h1;subst h1
  unfold Yj
  simp only [m]
  rcases j with j | j
  ·refine ⟨d,trivial,trivial,?_⟩
   simp only [j]
   unfold ZP
   simp only [m,j]
   refine ⟨d,trivial,by simp,?_⟩
   rw [if_pos (by simp)]
   have e1:splice bs (0+bs.length) []=bs:=by simp [splice]
   simp only [lln,Nat.add_zero]
   rw [e1,vg j]
   exact l
  ·refine ⟨d,trivial,trivial,?_⟩
   simp only [j]
   exact ⟨trivial,trivial,trivial,fun _=>l,fun h=>absurd rfl h⟩
theorem z1B (T:E.P=Tryz.prog) {p:Nat} {s:List UInt8} {F:Nat->Prop} {bs:List (List IV)} (h:yX L p F bs) (hs:s.length<=1048576) (Y:bs.length+2000000<=70368744177664) :
  XT E 106 [.ptr p 0 0,.str s] L fun r L'=>r=.tup []/\(∃F',yX L' p F' (bs++zH s)/\Grown F F' L L')/\Keep F L L':=by
 refine xt2 (fn:=Tryz.f106) (rs:=[]) (c:=zjH) T fun ρ O h1=>?_
 unfold zjH
 simp only [O,h1,go_sem]
 refine zh (WU (E:=E.noPan) T h od od od od) ?_
 rintro r L1 ⟨rfl,⟨F1,d,w⟩,l⟩
 obtain ⟨Q,b,u,A⟩:=id d
 have U:=zg b
 have hsz:=Zj (n:=s.length) (k:=7) od
 have D:=zM s.length
 simp only [O,h1,b,go_sem]
 by_cases hse:s=[]
 ·subst hse
  refine zc0 b d rfl ?_
  obtain ⟨A,q⟩:=d.cell b
  have X:(([Q]:List IV).all zG=true)=True:=by simp [q]
  simp only [b,A,List.drop,List.append_nil,go_sem]
  rw [vg b]
  refine ⟨q,⟨F1,?_,w⟩,l⟩
  have e1:zH []=zL 0:=by simp [zH,zk]
  rw [e1]
  exact d
 ·have j:(zk s).length=s.length:=by simp [zk]
  have S:=List.length_pos_iff.2 hse
  refine Jy (rs:=zk s) b d (Zm s) (by intro h;have R:=congrArg List.length h;rw [j] at R;simp only [lln] at R;omega) rfl (by have:=j;have:=D;simp only [lla] at *;omega) rfl ?_
  intro M k J v I
  have m:M[p]?=some (.cells 1 [[Q]]):=v.get b fun h=>h.2 rfl
  have B:=zg m
  simp only [m,B,go_sem]
  have G:=d.lt
  refine ⟨⟨fun t=>t=p\/t=L1.length,?_,?_⟩,?_⟩
  ·have e1:bs++zH s=bs++zL s.length++zk s:=by rw [zH,List.append_assoc]
   rw [e1]
   rw [e1.symm] at I ⊢
   rw [e1] at I ⊢
   refine z1k m I (u.app (Zm s)) (by simp [zL]) J (by rw [lla,j])
  ·rintro t (rfl | rfl)
   ·exact .inl h.lt.2.1
   ·right;have:=J;have:=l.1;simp only [lls,lla,llc,lln] at *;omega
  ·have V:Keep F1 L1 M:=v.mono fun t _ h=>h.1
   refine l.trans (Keep.set (Keep.app V) fun _=>G.2.1) fun t Z h=>?_
   rcases w t h with h | h
   ·exact h
   ·omega
def zlo : XC :=(sO [oV 2 (.int .u8 0)] (sO [oM 3 0,oO 4 (.bin .or (.t 3) (.c (.int .u8 32))),oM 2 4] .ret))
def zmx : XC :=(sO [oV 6 (.int .u64 0),oV 7 (.raw .nilIface)] (.seq (sO [oM 18 0,oO 19 (.bin .eql (.t 18) (.c (.str [])))] (cT 19 (sO [oO 20 (.ex (.mkif 333) [(oi 2)]),oV 6 (.int .u64 0),oM 7 20] .ret) .skip)) (sO [oM 21 1,oK 22 .eql 21 0,oM 8 22] (sO [oM 23 0,oM 9 23] (.seq (.block 0 (sO [oM 26 1,oO 27 (.bin .leq (oi 2) (.t 26)),oM 28 27,oG 29 28 true (.mov (.t 1)),oG 30 28 true (.bin .leq (.t 29) (oi 36)),oO 31 (.pick (.t 28) (.t 30) (.c (.bool false))),oM 25 31] (cT 25 .skip (sO [oM 33 1,oK 34 .eql 33 0,oM 32 34] (cT 32 (sO [oI 1 10] (sO [oM 35 0,oO 36 (.idx (.t 35) (oi 0)),oO 37 (.bin .eql (.t 36) (.c (.int .u8 48)))] (cT 37 (.block 1 (sO [oM 41 0,oO 42 (.lenS (.t 41)),oK 43 .geq 42 3,oM 44 43,oG 45 44 true (.mov (.t 0)),oG 46 44 true (.idx (.t 45) (oi 1)),oG 47 44 true (.call (.f 295) [.t 46]),oG 48 44 true (.bin .eql (.t 47) (.c (.int .u8 98))),oO 49 (.pick (.t 44) (.t 48) (.c (.bool false))),oM 40 49] (cT 40 (sO [oI 1 2] (.ops [oM 50 0,oO 51 (.sliceS (.t 50) (some (oi 2)) none),oM 0 51])) (sO [oM 53 0,oO 54 (.lenS (.t 53)),oK 55 .geq 54 3,oM 56 55,oG 57 56 true (.mov (.t 0)),oG 58 56 true (.idx (.t 57) (oi 1)),oG 59 56 true (.call (.f 295) [.t 58]),oG 60 56 true (.bin .eql (.t 59) (.c (.int .u8 111))),oO 61 (.pick (.t 56) (.t 60) (.c (.bool false))),oM 52 61] (cT 52 (sO [oI 1 8] (.ops [oM 62 0,oO 63 (.sliceS (.t 62) (some (oi 2)) none),oM 0 63])) (sO [oM 65 0,oO 66 (.lenS (.t 65)),oK 67 .geq 66 3,oM 68 67,oG 69 68 true (.mov (.t 0)),oG 70 68 true (.idx (.t 69) (oi 1)),oG 71 68 true (.call (.f 295) [.t 70]),oG 72 68 true (.bin .eql (.t 71) (.c (.int .u8 120))),oO 73 (.pick (.t 68) (.t 72) (.c (.bool false))),oM 64 73] (cT 64 (sO [oI 1 16] (.ops [oM 74 0,oO 75 (.sliceS (.t 74) (some (oi 2)) none),oM 0 75])) (sO [oI 1 8] (.ops [oM 38 0,oO 39 (.sliceS (.t 38) (some (oi 1)) none),oM 0 39]))))))))) .skip))) (sO [oO 24 (.ex (.mkif 333) [(oi 3)]),oV 6 (.int .u64 0),oM 7 24] .ret)))))) (.seq (sO [oM 76 2,oK 77 .eql 76 0] (cT 77 (.ops [oI 2 64]) (sO [oM 78 2,oK 79 .lss 78 0,oM 80 79,oG 81 80 false (.mov (.t 2)),oG 82 80 false (.bin .gtr (.t 81) (oi 64)),oO 83 (.pick (.t 80) (.c (.bool true)) (.t 82))] (cT 83 (sO [oO 84 (.ex (.mkif 333) [(oi 4)]),oV 6 (.int .u64 0),oM 7 84] .ret) .skip)))) (sO [oV 10 (.int .u64 0)] (.seq (sO [oM 85 1] (.block 2 (sO [oK 91 .eql 85 10,oM 90 91] (cT 90 (.ops [oV 10 (.int .u64 1844674407370955162)]) (sO [oK 93 .eql 85 16,oM 92 93] (cT 92 (.ops [oV 10 (.int .u64 1152921504606846976)]) (.ops [oM 86 1,oO 87 (.cvInt .u64 (.t 86)),oO 88 (.bin .quo (.c (.int .u64 18446744073709551615)) (.t 87)),oO 89 (.bin .add (.t 88) (.c (.int .u64 1))),oM 10 89]))))))) (sO [oM 94 2,oO 95 (.cvInt .u64 (.t 94)),oO 96 (.bin .shl (.c (.int .u64 1)) (.t 95)),oO 97 (.bin .sub (.t 96) (.c (.int .u64 1))),oM 11 97] (sO [oV 12 (.bool false)] (sO [oV 13 (.int .u64 0)] (.seq (sO [oM 98 0,oO 99 (.ex (.strB 5) [.t 98]),oY 100 99,oI 101 0] (.block 3 (.loop (sO [oB 102 .lss 101 100] (.seq (cT 102 .skip (.exit 3)) (.seq (.block 4 (sO [oO 103 (.idxS 1 (.t 99) (.t 101)),oL 104 103,oM 15 104] (sO [oV 16 (.int .u8 0)] (.seq (.block 5 (sO [oM 107 15,oO 108 (.bin .eql (.t 107) (.c (.int .u8 95))),oM 109 108,oG 110 109 true (.mov (.t 8)),oO 111 (.pick (.t 109) (.t 110) (.c (.bool false))),oM 106 111] (cT 106 (sO [oV 12 (.bool true)] (.exit 4)) (sO [oM 113 15,oO 114 (.bin .leq (.c (.int .u8 48)) (.t 113)),oM 115 114,oG 116 115 true (.mov (.t 15)),oG 117 115 true (.bin .leq (.t 116) (.c (.int .u8 57))),oO 118 (.pick (.t 115) (.t 117) (.c (.bool false))),oM 112 118] (cT 112 (.ops [oM 119 15,oO 120 (.bin .sub (.t 119) (.c (.int .u8 48))),oM 16 120]) (sO [oM 122 15,oC 123 295 [.t 122],oO 124 (.bin .leq (.c (.int .u8 97)) (.t 123)),oM 125 124,oG 126 125 true (.mov (.t 15)),oG 127 125 true (.call (.f 295) [.t 126]),oG 128 125 true (.bin .leq (.t 127) (.c (.int .u8 122))),oO 129 (.pick (.t 125) (.t 128) (.c (.bool false))),oM 121 129] (cT 121 (.ops [oM 130 15,oC 131 295 [.t 130],oO 132 (.bin .sub (.t 131) (.c (.int .u8 97))),oO 133 (.bin .add (.t 132) (.c (.int .u8 10))),oM 16 133]) (sO [oO 105 (.ex (.mkif 333) [(oi 2)]),oV 6 (.int .u64 0),oM 7 105] .ret)))))))) (.seq (sO [oM 134 16,oM 135 1,oO 136 (.cvInt .u8 (.t 135)),oB 137 .geq 134 136] (cT 137 (sO [oO 138 (.ex (.mkif 333) [(oi 2)]),oV 6 (.int .u64 0),oM 7 138] .ret) .skip)) (.seq (sO [oM 139 13,oM 140 10,oB 141 .geq 139 140] (cT 141 (sO [oM 142 11,oO 143 (.ex (.mkif 333) [(oi 1)]),oM 6 142,oM 7 143] .ret) .skip)) (sO [oM 144 13,oM 145 1,oO 146 (.cvInt .u64 (.t 145)),oB 147 .mul 144 146,oM 13 147] (sO [oM 148 13,oM 149 16,oO 150 (.cvInt .u64 (.t 149)),oB 151 .add 148 150,oM 17 151] (.seq (sO [oM 152 17,oM 153 13,oB 154 .lss 152 153,oM 155 154,oG 156 155 false (.mov (.t 17)),oG 157 155 false (.mov (.t 11)),oG 158 155 false (.bin .gtr (.t 156) (.t 157)),oO 159 (.pick (.t 155) (.c (.bool true)) (.t 158))] (cT 159 (sO [oM 160 11,oO 161 (.ex (.mkif 333) [(oi 1)]),oM 6 160,oM 7 161] .ret) .skip)) (.ops [oM 162 17,oM 13 162])))))))))) (.ops [oK 163 .add 101 1,oM 101 163]))))))) (.seq (sO [oM 164 12,oM 165 164,oG 166 165 true (.mov (.t 9)),oG 167 165 true (.call (.f 296) [.t 166]),oG 168 165 true (.un .not (.t 167)),oO 169 (.pick (.t 165) (.t 168) (.c (.bool false)))] (cT 169 (sO [oO 170 (.ex (.mkif 333) [(oi 2)]),oV 6 (.int .u64 0),oM 7 170] .ret) .skip)) (sO [oM 171 13,oM 6 171,oV 7 (.raw .nilIface)] .ret))))))))))))))
def zmB : XC :=(sO [oI 6 0,oV 7 (.raw .nilIface)] (.seq (sO [oM 12 0,oO 13 (.bin .eql (.t 12) (.c (.str [])))] (cT 13 (sO [oO 14 (.ex (.mkif 333) [(oi 2)]),oI 6 0,oM 7 14] .ret) .skip)) (sO [oV 8 (.bool false)] (.seq (sO [oM 15 0,oO 16 (.idx (.t 15) (oi 0))] (.block 0 (sO [oO 18 (.bin .eql (.t 16) (.c (.int .u8 43))),oM 17 18] (cT 17 (.ops [oM 19 0,oO 20 (.sliceS (.t 19) (some (oi 1)) none),oM 0 20]) (sO [oO 22 (.bin .eql (.t 16) (.c (.int .u8 45))),oM 21 22] (cT 21 (sO [oM 23 0,oO 24 (.sliceS (.t 23) (some (oi 1)) none),oM 0 24] (.ops [oV 8 (.bool true)])) .skip)))))) (sO [oV 9 (.int .u64 0)] (sO [oM 26 0,oM 27 1,oM 28 2,oC 29 232 [.t 26,.t 27,.t 28],oM 25 29,oX 30 0 25,oX 31 1 25,oM 9 30,oM 7 31] (.seq (sO [oM 32 7,oO 33 (.isNil 1 true (.t 32)),oM 34 33,oG 35 34 true (.mov (.t 7)),oG 36 34 true (.ex (.mkif 333) [(oi 1)]),oG 37 34 true (.ex .no []),oO 38 (.pick (.t 34) (.t 37) (.c (.bool false)))] (cT 38 (sO [oM 39 7,oI 6 0,oM 7 39] .ret) .skip)) (.seq (sO [oM 40 2,oK 41 .eql 40 0] (cT 41 (.ops [oI 2 64]) .skip)) (sO [oM 42 2,oK 43 .sub 42 1,oO 44 (.cvInt .u64 (.t 43)),oO 45 (.bin .shl (.c (.int .u64 1)) (.t 44)),oM 10 45] (.seq (sO [oM 46 8,oO 47 (.un .not (.t 46)),oM 48 47,oG 49 48 true (.mov (.t 9)),oG 50 48 true (.mov (.t 10)),oG 51 48 true (.bin .geq (.t 49) (.t 50)),oO 52 (.pick (.t 48) (.t 51) (.c (.bool false)))] (cT 52 (sO [oM 53 10,oO 54 (.bin .sub (.t 53) (.c (.int .u64 1))),oO 55 (.cvInt .i64 (.t 54)),oO 56 (.ex (.mkif 333) [(oi 1)]),oM 6 55,oM 7 56] .ret) .skip)) (.seq (sO [oM 57 8,oM 58 57,oG 59 58 true (.mov (.t 9)),oG 60 58 true (.mov (.t 10)),oG 61 58 true (.bin .gtr (.t 59) (.t 60)),oO 62 (.pick (.t 58) (.t 61) (.c (.bool false)))] (cT 62 (sO [oM 63 10,oO 64 (.cvInt .i64 (.t 63)),oO 65 (.un .neg (.t 64)),oO 66 (.ex (.mkif 333) [(oi 1)]),oM 6 65,oM 7 66] .ret) .skip)) (sO [oM 67 9,oO 68 (.cvInt .i64 (.t 67)),oM 11 68] (.seq (sO [oM 69 8] (cT 69 (.ops [oM 70 11,oO 71 (.un .neg (.t 70)),oM 11 71]) .skip)) (sO [oM 72 11,oM 6 72,oV 7 (.raw .nilIface)] .ret))))))))))))))
def zlp : XC :=(sO [oI 6 0,oV 7 (.raw .nilIface)] (sO [oM 10 0,oM 11 1,oM 12 2,oC 13 178 [.t 10,.t 11,.t 12],oM 9 13,oX 14 0 9,oX 15 1 9,oM 8 14,oM 7 15] (.seq (sO [oM 16 7,oO 17 (.isNil 1 true (.t 16))] (cT 17 (sO [oM 18 8,oM 19 0,oM 20 1,oM 21 2,oM 22 7,oO 23 (.call (.f 179) [(.c (.str [80,97,114,115,101,73,110,116])),.t 19,.t 20,.t 21,.t 22]),oM 6 18,oM 7 23] .ret) .skip)) (sO [oM 24 8,oM 6 24,oV 7 (.raw .nilIface)] .ret))))
theorem VW (d:E.P=Tryz.prog) {c:UInt8} (h:97<=c.toNat/\c.toNat<=102):zD E 295 [.int .u8 c.toNat] (.int .u8 c.toNat):=by
 have b:bor .u8 (c.toNat:Int) 32=(c.toNat:Int):=by
  have:c.toNat=97\/c.toNat=98\/c.toNat=99\/c.toNat=100\/c.toNat=101\/c.toNat=102:=by omega
  rcases this with h | h | h | h | h | h<;>rw [h]<;>decide
 refine xu1 (fn:=Tryz.f295) (c:=zlo) (t:=2) d fun ρ j=>?_
 unfold zlo
 simp only [j,b,go_sem]
 rfl
theorem zb9 (D:E.P=Tryz.prog) {s:List UInt8} (h0:s≠[]) (hs:∀c∈s,isH c) (hl:s.length<=14):XT E 232 [.str s,.int .i64 16,.int .i64 64] L fun r L'=>r=.tup [.int .u64 (YL s),.raw .nilIface]/\Keep none' L L':=by
 have hv:=z1o hs
 have af:YL s<72057594037927936:=Nat.lt_of_lt_of_le hv (Nat.pow_le_pow_right (by decide) hl)
 have z1:(s=[])=False:=eq_false h0
 refine zI (n:=Tryz.f232.ntmps) (rs:=[.tmp 6,.tmp 7]) (c:=zmx) (by rw [D];rfl) (by rw [D];kernel_rfl) (by decide) (Nat.le_of_ble_eq_true rfl) ?_
 generalize l:entry _=ρ
 have g0:ρ 0=.str s:=by rw [<-l];rfl
 have v:ρ 1=.int .i64 16:=by rw [<-l];rfl
 have g2:ρ 2=.int .i64 64:=by rw [<-l];rfl
 clear l
 unfold zmx
 have hf:(s.length<=9223372036854775807)=True:=tO
 have S:IntKind.u64.wrap (zez IntKind.u64 1 64 - 1)=18446744073709551615:=by decide
 simp only [wu64,g0,v,g2,z1,hf,S,go_sem]
 obtain ⟨J,w⟩:∃J,L.length=J:=⟨_,rfl⟩
 have kA:Keep none' L (L++[Blk.tcells 5 1 (zk s)]):=Keep.app Keep.refl
 have gt:(L++[Blk.tcells 5 1 (zk s)])[J]?=some (.tcells 5 1 (zk s)):=by rw [<-w];simp
 rw [w]
 generalize L++[Blk.tcells 5 1 (zk s)]=L1 at *
 have lt:=zg gt
 refine zC (fun n ρ M=>∃i:Nat,i<=s.length/\n=s.length - i/\M=L1/\ρ 1=.int .i64 16/\ρ 8=.bool false/\ρ 10=.int .u64 1152921504606846976/\ρ 11=.int .u64 18446744073709551615/\ρ 12=.bool false/\ρ 13=.int .u64 (YL (s.take i))/\ρ 99=.sl J 0 s.length s.length/\ρ 100=.int .i64 s.length/\ρ 101=.int .i64 i)
  ⟨0,od,rfl,rfl,by simp only [v,go_sem],by simp only [go_sem],by simp only [go_sem],by simp only [go_sem],by simp only [go_sem],by simp only [go_sem]<;>rfl,by simp only [go_sem],by simp only [go_sem],by simp only [go_sem]<;>rfl⟩ ?_
 clear g0 v g2 ρ
 rintro n ρ M ⟨i,hi,rfl,rfl,v,g8,B,A,p,q,m,d,j⟩
 by_cases hc:i<s.length
 ·have I:((i:Int)<(s.length:Int))=True:=tO
  have e0:((0:Int)<=(i:Int))=True:=tO
  obtain ⟨c,u⟩:∃c,s[i]?=some c:=⟨s[i],List.getElem?_eq_getElem hc⟩
  have b:=hs c (List.mem_of_getElem? u)
  have G:(zk s).length=s.length:=yB s
  have n1:(i<(zk s).length)=True:=tO
  have Y:(zk s).getD i []=[.int .u8 c.toNat]:=by rw [List.getD_eq_getElem?_getD];simp [zk,u]
  have ht:s.take (i+1)=s.take i++[c]:=by rw [List.take_add_one,u];rfl
  have hu:=zdc b
  have ae:=jy s (i+1)
  have V:=jy s i
  have R:=z2C (s.take i) c
  rw [<-ht] at R
  have w1:IntKind.i64.wrap ((i:Int)+1)=((i+1:Nat):Int):=wR
  have U:((c.toNat:Int)=95)=False:=eq_false (by rcases b with h | h<;>omega)
  have f3:((48:Int)<=(c.toNat:Int))=True:=eq_true (by rcases b with h | h<;>omega)
  have f5:((16:Int)<=(unH c:Int))=False:=fO
  have f6:((1152921504606846976:Int)<=(YL (s.take i):Int))=False:=fO
  have X:IntKind.u64.wrap ((YL (s.take i):Int)*16)=((YL (s.take i)*16:Nat):Int):=by rw [wu64 od od];rfl
  have w3:IntKind.u64.wrap (unH c:Int)=(unH c:Int):=wu64 od od
  have w4:IntKind.u64.wrap (((YL (s.take i)*16:Nat):Int)+(unH c:Int))=(YL (s.take (i+1)):Int):=by rw [wu64 od od];omega
  have Z:((YL (s.take (i+1)):Int)<((YL (s.take i)*16:Nat):Int))=False:=fO
  have T:((18446744073709551615:Int)<(YL (s.take (i+1)):Int))=False:=fO
  have w5:IntKind.u8.wrap 16=16:=by decide
  have w6:IntKind.u64.wrap 16=16:=by decide
  rcases b with b | b
  ·have f4:((c.toNat:Int)<=57)=True:=tO
   have O:IntKind.u8.wrap ((c.toNat:Int) - 48)=(unH c:Int):=by rw [wu8 od od];unfold unH;rw [if_pos b.2];omega
   simp only [v,g8,B,A,p,q,m,d,j,gt,Yk,I,e0,G,Y,U,f3,f4,f5,f6,Z,T,w1,X,w3,w4,w5,w6,O,Nat.zero_add,Int.toNat_natCast,go_sem]
   exact ⟨hc,s.length - (i+1),od,i+1,od,rfl,rfl,rfl⟩
  ·have f4:((c.toNat:Int)<=57)=False:=fO
   have f9:((97:Int)<=(c.toNat:Int))=True:=tO
   have f10:((c.toNat:Int)<=122)=True:=tO
   have O:IntKind.u8.wrap (IntKind.u8.wrap ((c.toNat:Int) - 97)+10)=(unH c:Int):=by rw [wu8 (n:=(c.toNat:Int) - 97) od od,wu8 od od];unfold unH;rw [if_neg od];omega
   simp only [m,d,j,gt,Yk,I,e0,G,Y,U,f3,f4,Nat.zero_add,Int.toNat_natCast,go_sem]
   refine ⟨hc,?_⟩
   refine zi (args':=[.int .u8 c.toNat]) rfl (VW (E:=E.noPan) D b) rfl ?_
   simp only [f9,go_sem]
   refine zi (args':=[.int .u8 c.toNat]) rfl (VW (E:=E.noPan) D b) rfl ?_
   simp only [f10,go_sem]
   refine zi (args':=[.int .u8 c.toNat]) rfl (VW (E:=E.noPan) D b) rfl ?_
   simp only [v,g8,B,A,p,q,m,d,j,f5,f6,Z,T,w1,X,w3,w4,w5,w6,O,go_sem]
   exact ⟨s.length - (i+1),od,i+1,od,rfl,rfl,rfl⟩
 ·have I:((i:Int)<(s.length:Int))=False:=fO
  simp only [p,q,d,j,I,go_sem]
  have Q:i=s.length:=by omega
  subst Q
  rw [List.take_length]
  exact ⟨rfl,kA⟩
theorem z9Y (p:E.P=Tryz.prog) {s:List UInt8} (m:s≠[]) (hs:∀c∈s,isH c) (q:s.length<=14):XT E 178 [.str s,.int .i64 16,.int .i64 64] L fun r L'=>r=.tup [.int .i64 (YL s),.raw .nilIface]/\Keep none' L L':=by
 have w:=z1o hs
 have v:YL s<72057594037927936:=Nat.lt_of_lt_of_le w (Nat.pow_le_pow_right (by decide) q)
 have Q:(s=[])=False:=eq_false m
 obtain ⟨c,r0,d⟩:∃c r,s=c::r:=by cases s with
  | nil=>exact absurd rfl m
  | cons c r=>exact ⟨c,r,rfl⟩
 have j:=hs c (by rw [d];exact List.mem_cons_self)
 have I:s.getD 0 0=c:=by rw [d];rfl
 have G:((0:Int)<(s.length:Int))=True:=eq_true (by rw [d];simp)
 have B:((c.toNat:Int)=43)=False:=eq_false (by rcases j with h | h<;>omega)
 have M:((c.toNat:Int)=45)=False:=eq_false (by rcases j with h | h<;>omega)
 refine zI (n:=Tryz.f178.ntmps) (rs:=[.tmp 6,.tmp 7]) (c:=zmB) (by rw [p];rfl) (by rw [p];kernel_rfl) (by decide) (Nat.le_of_ble_eq_true rfl) ?_
 generalize b:entry _=ρ
 have g0:ρ 0=.str s:=by rw [<-b];rfl
 have J:ρ 1=.int .i64 16:=by rw [<-b];rfl
 have u:ρ 2=.int .i64 64:=by rw [<-b];rfl
 clear b
 unfold zmB
 simp only [g0,J,u,Q,G,I,B,M,go_sem]
 refine zh (zb9 (E:=E.noPan) p m hs q) ?_
 rintro r L' ⟨rfl,A⟩
 have R:zez IntKind.u64 1 (IntKind.u64.wrap 63)=9223372036854775808:=by decide
 have l:zez IntKind.u64 1 63=9223372036854775808:=by decide
 have D:((9223372036854775808:Int)<=(YL s:Int))=False:=fO
 have O:IntKind.i64.wrap (YL s:Int)=(YL s:Int):=YF od od
 simp only [YF,wu64,u,l,D,O,go_sem]
 exact A
theorem z3n (d:E.P=Tryz.prog) {s:List UInt8} (l:s≠[]) (hs:∀c∈s,isH c) (j:s.length<=14):zD E 115 [.str s,.int .i64 16,.int .i64 64] (.tup [.int .i64 (YL s),.raw .nilIface]):=by
 refine zU (R:=fun r L'=>r=.tup [.int .i64 (YL s),.raw .nilIface]/\Keep none' [] L') ?_ ?_
 rotate_left
 ·rintro r L' ⟨rfl,m⟩
  exact ⟨m,_,rfl,rfl⟩
 refine zI (n:=Tryz.f115.ntmps) (rs:=[.tmp 6,.tmp 7]) (c:=zlp) (by rw [d];rfl) (by rw [d];kernel_rfl) (by decide) (Nat.le_of_ble_eq_true rfl) ?_
 generalize b:entry _=ρ
 have g0:ρ 0=.str s:=by rw [<-b];rfl
 have p:ρ 1=.int .i64 16:=by rw [<-b];rfl
 have q:ρ 2=.int .i64 64:=by rw [<-b];rfl
 clear b
 unfold zlp
 simp only [g0,p,q,go_sem]
 refine zh (z9Y (E:=E.noPan) d l hs j) ?_
 rintro r L' ⟨rfl,h⟩
 simp only [go_sem]
 exact h
end
end Go.X.TryzW
end
