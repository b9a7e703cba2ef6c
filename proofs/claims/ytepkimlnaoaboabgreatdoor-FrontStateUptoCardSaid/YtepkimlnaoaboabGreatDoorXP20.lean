/- Parts of the proof: Xgfbld, Xgfrune, Xgfwrite, XgLib2, XgLib3. -/
import Derived.Test.YtepkimlnaoaboabGreatDoorXP19
set_option linter.unusedVariables false
set_option linter.unusedSimpArgs false
set_option linter.unusedSectionVars false
section
open Go Go.X Go.Proofs
set_option maxRecDepth 100000
set_option maxHeartbeats 4000000
set_option linter.unusedSimpArgs false
set_option linter.unusedVariables false
namespace Go.X.TryzW
/- "(*strings.Builder).copyCheck" params { toList := [75] } results { toList := [] } -/
def y76 : XC :=
 (.seq
  (.ops [
    ⟨(some 2), (.mov (.t 0)), none⟩,
    ⟨(some 3), (.nilck (.t 2)), none⟩,
    ⟨(some 4), (.fldA 0 (.t 3)), none⟩,
    ⟨(some 5), (.load1 (.t 4)), none⟩,
    ⟨(some 6), (.ex (.eqP false) [(.t 5), (.c (.raw (.pointer none)))]), none⟩])
  (.cond (.t 6)
   (.ops [
     ⟨(some 7), (.mov (.t 0)), none⟩,
     ⟨(some 8), (.mov (.t 0)), none⟩,
     ⟨(some 9), (.ex (.toU 47 1) [(.t 8)]), none⟩,
     ⟨(some 10), (.call (.f 56) [(.t 9)]), none⟩,
     ⟨(some 11), (.ex (.ofU 47 2) [(.t 10)]), none⟩,
     ⟨(some 12), (.nilck (.t 7)), none⟩,
     ⟨(some 13), (.fldA 0 (.t 12)), none⟩,
     ⟨none, (.store 1 (.t 13) (.t 11)), none⟩])
   (.seq
    (.ops [
      ⟨(some 14), (.mov (.t 0)), none⟩,
      ⟨(some 15), (.nilck (.t 14)), none⟩,
      ⟨(some 16), (.fldA 0 (.t 15)), none⟩,
      ⟨(some 17), (.load1 (.t 16)), none⟩,
      ⟨(some 18), (.mov (.t 0)), none⟩,
      ⟨(some 19), (.ex (.eqP true) [(.t 17), (.t 18)]), none⟩])
    (.cond (.t 19)
     .bad
     .skip))))

/- "(*strings.Builder).WriteString" params { toList := [75, 9] } results { toList := [Go.ResultVar.tmp 4, Go.ResultVar.tmp 5] } -/
def y51 : XC :=
 (.seq
  (.ops [
    ⟨(some 4), (.mov (.c (.int .i64 0))), none⟩,
    ⟨(some 5), (.mov (.c (.raw .nilIface))), none⟩])
  (.seq
   (.ops [
     ⟨(some 6), (.mov (.t 0)), none⟩,
     ⟨(some 7), (.call (.f 39) [(.t 6)]), none⟩])
   (.seq
    (.ops [
      ⟨(some 8), (.mov (.t 0)), none⟩,
      ⟨(some 9), (.mov (.t 0)), none⟩,
      ⟨(some 10), (.nilck (.t 9)), none⟩,
      ⟨(some 11), (.fldA 1 (.t 10)), none⟩,
      ⟨(some 12), (.load1 (.t 11)), none⟩,
      ⟨(some 13), (.mov (.t 1)), none⟩,
      ⟨(some 14), (.ex (.appT 5 1) [(.t 12), (.t 13)]), none⟩,
      ⟨(some 15), (.nilck (.t 8)), none⟩,
      ⟨(some 16), (.fldA 1 (.t 15)), none⟩,
      ⟨none, (.store 1 (.t 16) (.t 14)), none⟩])
    (.seq
     (.ops [
       ⟨(some 17), (.mov (.t 1)), none⟩,
       ⟨(some 18), (.lenS (.t 17)), none⟩,
       ⟨(some 4), (.mov (.t 18)), none⟩,
       ⟨(some 5), (.mov (.c (.raw .nilIface))), none⟩])
     .ret))))

/- "(*strings.Builder).WriteByte" params { toList := [75, 5] } results { toList := [Go.ResultVar.tmp 4] } -/
def y48 : XC :=
 (.seq
  (.ops [
    ⟨(some 4), (.mov (.c (.raw .nilIface))), none⟩])
  (.seq
   (.ops [
     ⟨(some 5), (.mov (.t 0)), none⟩,
     ⟨(some 6), (.call (.f 39) [(.t 5)]), none⟩])
   (.seq
    (.ops [
      ⟨(some 7), (.mov (.t 0)), none⟩,
      ⟨(some 8), (.mov (.t 0)), none⟩,
      ⟨(some 9), (.nilck (.t 8)), none⟩,
      ⟨(some 10), (.fldA 1 (.t 9)), none⟩,
      ⟨(some 11), (.load1 (.t 10)), none⟩,
      ⟨(some 12), (.mov (.t 1)), none⟩,
      ⟨(some 13), (.bslice 1 [(.int .u8 0)] 1 [(0, (.t 12))]), none⟩,
      ⟨(some 14), (.ex (.appT 5 1) [(.t 11), (.t 13)]), none⟩,
      ⟨(some 15), (.nilck (.t 7)), none⟩,
      ⟨(some 16), (.fldA 1 (.t 15)), none⟩,
      ⟨none, (.store 1 (.t 16) (.t 14)), none⟩])
    (.seq
     (.ops [
       ⟨(some 4), (.mov (.c (.raw .nilIface))), none⟩])
     .ret))))

/- "(*strings.Builder).String" params { toList := [75] } results { toList := [Go.ResultVar.tmp 2] } -/
def y52 : XC :=
 (.seq
  (.ops [
    ⟨(some 2), (.mov (.c (.str []))), none⟩])
  (.seq
   (.drawE [
     ⟨(some 3), (.mov (.t 0)), none⟩,
     ⟨(some 4), (.nilck (.t 3)), none⟩,
     ⟨(some 5), (.fldA 1 (.t 4)), none⟩,
     ⟨(some 6), (.load1 (.t 5)), none⟩,
     ⟨(some 7), (.ex .sdata [(.t 6)]), none⟩,
     ⟨(some 8), (.mov (.t 0)), none⟩,
     ⟨(some 9), (.nilck (.t 8)), none⟩,
     ⟨(some 10), (.fldA 1 (.t 9)), none⟩,
     ⟨(some 11), (.load1 (.t 10)), none⟩,
     ⟨(some 12), (.len (.t 11)), none⟩,
     ⟨(some 13), (.ex (.ustr 5) [(.t 7), (.t 12)]), none⟩,
     ⟨(some 2), (.mov (.t 13)), none⟩])
   .ret))

/- "unicode/utf8.AppendRune" params { toList := [23, 21] } results { toList := [Go.ResultVar.tmp 4] } -/
def y125 : XC :=
 (.seq
  (.ops [
    ⟨(some 4), (.mov (.c .nsl)), none⟩])
  (.seq
   (.seq
    (.ops [
      ⟨(some 5), (.mov (.t 1)), none⟩,
      ⟨(some 6), (.cvInt .u32 (.t 5)), none⟩,
      ⟨(some 7), (.bin .leq (.t 6) (.c (.int .u32 127))), none⟩])
    (.cond (.t 7)
     (.seq
      (.ops [
        ⟨(some 8), (.mov (.t 0)), none⟩,
        ⟨(some 9), (.mov (.t 1)), none⟩,
        ⟨(some 10), (.cvInt .u8 (.t 9)), none⟩,
        ⟨(some 11), (.bslice 1 [(.int .u8 0)] 1 [(0, (.t 10))]), none⟩,
        ⟨(some 12), (.ex (.appT 5 1) [(.t 8), (.t 11)]), none⟩,
        ⟨(some 4), (.mov (.t 12)), none⟩])
      .ret)
     .skip))
   (.seq
    (.ops [
      ⟨(some 13), (.mov (.t 0)), none⟩,
      ⟨(some 14), (.mov (.t 1)), none⟩,
      ⟨(some 15), (.call (.f 132) [(.t 13), (.t 14)]), none⟩,
      ⟨(some 4), (.mov (.t 15)), none⟩])
    .ret)))

/- "unicode/utf8.appendRuneNonASCII" params { toList := [23, 21] } results { toList := [Go.ResultVar.tmp 4] } -/
def y129 : XC :=
 (.seq
  (.ops [
    ⟨(some 4), (.mov (.c .nsl)), none⟩])
  (.seq
   (.ops [
     ⟨(some 6), (.mov (.t 1)), none⟩,
     ⟨(some 7), (.cvInt .u32 (.t 6)), none⟩,
     ⟨(some 5), (.mov (.t 7)), none⟩])
   (.block 0
    (.seq
     (.ops [
       ⟨(some 12), (.mov (.t 5)), none⟩,
       ⟨(some 13), (.bin .leq (.t 12) (.c (.int .u32 2047))), none⟩,
       ⟨(some 11), (.mov (.t 13)), none⟩])
     (.cond (.t 11)
      (.seq
       (.ops [
         ⟨(some 14), (.mov (.t 0)), none⟩,
         ⟨(some 15), (.mov (.t 1)), none⟩,
         ⟨(some 16), (.bin .shr (.t 15) (.c (.int .u64 6))), none⟩,
         ⟨(some 17), (.cvInt .u8 (.t 16)), none⟩,
         ⟨(some 18), (.bin .or (.c (.int .u8 192)) (.t 17)), none⟩,
         ⟨(some 19), (.mov (.t 1)), none⟩,
         ⟨(some 20), (.cvInt .u8 (.t 19)), none⟩,
         ⟨(some 21), (.bin .and (.t 20) (.c (.int .u8 63))), none⟩,
         ⟨(some 22), (.bin .or (.c (.int .u8 128)) (.t 21)), none⟩,
         ⟨(some 23), (.bslice 1 [(.int .u8 0)] 2 [(0, (.t 18)), (1, (.t 22))]), none⟩,
         ⟨(some 24), (.ex (.appT 5 1) [(.t 14), (.t 23)]), none⟩,
         ⟨(some 4), (.mov (.t 24)), none⟩])
       .ret)
      (.seq
       (.seq
        (.ops [
          ⟨(some 26), (.mov (.t 5)), none⟩,
          ⟨(some 27), (.bin .lss (.t 26) (.c (.int .u32 55296))), none⟩,
          ⟨(some 25), (.mov (.t 27)), none⟩])
        (.cond (.t 25)
         .skip
         (.ops [
           ⟨(some 28), (.mov (.t 5)), none⟩,
           ⟨(some 29), (.bin .lss (.c (.int .u32 57343)) (.t 28)), none⟩,
           ⟨(some 30), (.mov (.t 29)), none⟩,
           ⟨(some 31), (.mov (.t 5)), (some (30, true))⟩,
           ⟨(some 32), (.bin .leq (.t 31) (.c (.int .u32 65535))), (some (30, true))⟩,
           ⟨(some 33), (.pick (.t 30) (.t 32) (.c (.bool false))), none⟩,
           ⟨(some 25), (.mov (.t 33)), none⟩])))
       (.cond (.t 25)
        (.seq
         (.ops [
           ⟨(some 34), (.mov (.t 0)), none⟩,
           ⟨(some 35), (.mov (.t 1)), none⟩,
           ⟨(some 36), (.bin .shr (.t 35) (.c (.int .u64 12))), none⟩,
           ⟨(some 37), (.cvInt .u8 (.t 36)), none⟩,
           ⟨(some 38), (.bin .or (.c (.int .u8 224)) (.t 37)), none⟩,
           ⟨(some 39), (.mov (.t 1)), none⟩,
           ⟨(some 40), (.bin .shr (.t 39) (.c (.int .u64 6))), none⟩,
           ⟨(some 41), (.cvInt .u8 (.t 40)), none⟩,
           ⟨(some 42), (.bin .and (.t 41) (.c (.int .u8 63))), none⟩,
           ⟨(some 43), (.bin .or (.c (.int .u8 128)) (.t 42)), none⟩,
           ⟨(some 44), (.mov (.t 1)), none⟩,
           ⟨(some 45), (.cvInt .u8 (.t 44)), none⟩,
           ⟨(some 46), (.bin .and (.t 45) (.c (.int .u8 63))), none⟩,
           ⟨(some 47), (.bin .or (.c (.int .u8 128)) (.t 46)), none⟩,
           ⟨(some 48), (.bslice 1 [(.int .u8 0)] 3 [(0, (.t 38)), (1, (.t 43)), (2, (.t 47))]), none⟩,
           ⟨(some 49), (.ex (.appT 5 1) [(.t 34), (.t 48)]), none⟩,
           ⟨(some 4), (.mov (.t 49)), none⟩])
         .ret)
        (.seq
         (.ops [
           ⟨(some 51), (.mov (.t 5)), none⟩,
           ⟨(some 52), (.bin .gtr (.t 51) (.c (.int .u32 65535))), none⟩,
           ⟨(some 53), (.mov (.t 52)), none⟩,
           ⟨(some 54), (.mov (.t 5)), (some (53, true))⟩,
           ⟨(some 55), (.bin .leq (.t 54) (.c (.int .u32 1114111))), (some (53, true))⟩,
           ⟨(some 56), (.pick (.t 53) (.t 55) (.c (.bool false))), none⟩,
           ⟨(some 50), (.mov (.t 56)), none⟩])
         (.cond (.t 50)
          (.seq
           (.ops [
             ⟨(some 57), (.mov (.t 0)), none⟩,
             ⟨(some 58), (.mov (.t 1)), none⟩,
             ⟨(some 59), (.bin .shr (.t 58) (.c (.int .u64 18))), none⟩,
             ⟨(some 60), (.cvInt .u8 (.t 59)), none⟩,
             ⟨(some 61), (.bin .or (.c (.int .u8 240)) (.t 60)), none⟩,
             ⟨(some 62), (.mov (.t 1)), none⟩,
             ⟨(some 63), (.bin .shr (.t 62) (.c (.int .u64 12))), none⟩,
             ⟨(some 64), (.cvInt .u8 (.t 63)), none⟩,
             ⟨(some 65), (.bin .and (.t 64) (.c (.int .u8 63))), none⟩,
             ⟨(some 66), (.bin .or (.c (.int .u8 128)) (.t 65)), none⟩,
             ⟨(some 67), (.mov (.t 1)), none⟩,
             ⟨(some 68), (.bin .shr (.t 67) (.c (.int .u64 6))), none⟩,
             ⟨(some 69), (.cvInt .u8 (.t 68)), none⟩,
             ⟨(some 70), (.bin .and (.t 69) (.c (.int .u8 63))), none⟩,
             ⟨(some 71), (.bin .or (.c (.int .u8 128)) (.t 70)), none⟩,
             ⟨(some 72), (.mov (.t 1)), none⟩,
             ⟨(some 73), (.cvInt .u8 (.t 72)), none⟩,
             ⟨(some 74), (.bin .and (.t 73) (.c (.int .u8 63))), none⟩,
             ⟨(some 75), (.bin .or (.c (.int .u8 128)) (.t 74)), none⟩,
             ⟨(some 76), (.bslice 1 [(.int .u8 0)] 4 [(0, (.t 61)), (1, (.t 66)), (2, (.t 71)), (3, (.t 75))]), none⟩,
             ⟨(some 77), (.ex (.appT 5 1) [(.t 57), (.t 76)]), none⟩,
             ⟨(some 4), (.mov (.t 77)), none⟩])
           .ret)
          (.seq
           (.ops [
             ⟨(some 8), (.mov (.t 0)), none⟩,
             ⟨(some 9), (.bslice 1 [(.int .u8 0)] 3 [(0, (.c (.int .u8 239))), (1, (.c (.int .u8 191))), (2, (.c (.int .u8 189)))]), none⟩,
             ⟨(some 10), (.ex (.appT 5 1) [(.t 8), (.t 9)]), none⟩,
             ⟨(some 4), (.mov (.t 10)), none⟩])
           .ret))))))))))

/- "(*strings.Builder).WriteRune" params { toList := [75, 21] } results { toList := [Go.ResultVar.tmp 4, Go.ResultVar.tmp 5] } -/
def y116 : XC :=
 (.seq
  (.ops [
    ⟨(some 4), (.mov (.c (.int .i64 0))), none⟩,
    ⟨(some 5), (.mov (.c (.raw .nilIface))), none⟩])
  (.seq
   (.ops [
     ⟨(some 7), (.mov (.t 0)), none⟩,
     ⟨(some 8), (.call (.f 39) [(.t 7)]), none⟩])
   (.seq
    (.ops [
      ⟨(some 9), (.mov (.t 0)), none⟩,
      ⟨(some 10), (.nilck (.t 9)), none⟩,
      ⟨(some 11), (.fldA 1 (.t 10)), none⟩,
      ⟨(some 12), (.load1 (.t 11)), none⟩,
      ⟨(some 13), (.len (.t 12)), none⟩,
      ⟨(some 6), (.mov (.t 13)), none⟩])
    (.seq
     (.ops [
       ⟨(some 14), (.mov (.t 0)), none⟩,
       ⟨(some 15), (.mov (.t 0)), none⟩,
       ⟨(some 16), (.nilck (.t 15)), none⟩,
       ⟨(some 17), (.fldA 1 (.t 16)), none⟩,
       ⟨(some 18), (.load1 (.t 17)), none⟩,
       ⟨(some 19), (.mov (.t 1)), none⟩,
       ⟨(some 20), (.call (.f 129) [(.t 18), (.t 19)]), none⟩,
       ⟨(some 21), (.nilck (.t 14)), none⟩,
       ⟨(some 22), (.fldA 1 (.t 21)), none⟩,
       ⟨none, (.store 1 (.t 22) (.t 20)), none⟩])
     (.seq
      (.ops [
        ⟨(some 23), (.mov (.t 0)), none⟩,
        ⟨(some 24), (.nilck (.t 23)), none⟩,
        ⟨(some 25), (.fldA 1 (.t 24)), none⟩,
        ⟨(some 26), (.load1 (.t 25)), none⟩,
        ⟨(some 27), (.len (.t 26)), none⟩,
        ⟨(some 28), (.mov (.t 6)), none⟩,
        ⟨(some 29), (.bin .sub (.t 27) (.t 28)), none⟩,
        ⟨(some 4), (.mov (.t 29)), none⟩,
        ⟨(some 5), (.mov (.c (.raw .nilIface))), none⟩])
      .ret)))))

section
variable {E : Env} {L : List Blk} {K : IV → List Blk → Prop}
theorem al1 {k : Blk} {L : List Blk} (h : L[0]? = some k) (ha : k.alive = true := by rfl) : ∀ s ∈ [0], aliveAt L s := fun s hs => by
  rw [List.mem_singleton] at hs; subst hs; exact ⟨k, h, ha⟩
theorem al2 {k l : Blk} {L : List Blk} (h : L[0]? = some k) (h' : L[1]? = some l) (ha : k.alive = true := by rfl) (hb : l.alive = true := by rfl) : ∀ s ∈ [0, 1], aliveAt L s := fun s hs => by
  simp only [List.mem_cons, List.not_mem_nil, or_false] at hs
  rcases hs with rfl | rfl
  · exact ⟨k, h, ha⟩
  · exact ⟨l, h', hb⟩
theorem noEsc (hP : E.P = Tryz.prog) (s r o : Nat) : XExt E 56 [.ptr s r o] (.ptr s r o) := by
  refine ext_mk (fn := Tryz.f56) (en := Extern.AbiNoEscape.same) (by rw [hP]; rfl) (by rfl) (by rfl) (by rfl) (by rfl) fun C vs _ hl hv => ?_
  match vs, hl with
  | [v], _ => exact ⟨v, rfl, hv 0 _ rfl⟩
theorem copyCheck_fresh (hP : E.P = Tryz.prog) : XT E 39 [.ptr 0 0 0] [.tcells 47 2 [[.raw (.pointer none), .raw (.slice none 0 0)]]] fun r L1 => r = .tup [] ∧ L1 = [.tcells 47 2 [[.ptr 0 0 0, .raw (.slice none 0 0)]]] := by
  refine xt_of_fun (F := ⟨Tryz.f39.ntmps, [], y76⟩) (by rw [hP]; rfl) (by rw [hP]; kernel_rfl) (by decide) (Nat.le_of_ble_eq_true rfl) (xfun0 ?_)
  generalize hρ : entry _ = ρ
  have h0 : ρ 0 = .ptr 0 0 0 := by rw [← hρ]; rfl
  clear hρ
  unfold y76
  simp only [h0, go_sem, Nat.reduceEqDiff, reduceIte, Int.reduceEq, Int.reduceLT, Int.reduceLE, Nat.reduceAdd, Nat.reduceLT, Nat.reduceLeDiff, Int.reduceToNat, Int.reduceSub, Int.reduceAdd, Int.reduceNeg]
  refine xptrU_at (sz := 2) rfl (by decide) (by decide) ?_
  simp only [h0, go_sem, Nat.reduceEqDiff, reduceIte, Int.reduceEq, Int.reduceLT, Int.reduceLE, Nat.reduceAdd, Nat.reduceLT, Nat.reduceLeDiff, Int.reduceToNat, Int.reduceSub, Int.reduceAdd, Int.reduceNeg]
  refine xcall_ext (noEsc (E := E.noPan) hP 0 0 0) ?_
  simp only [h0, go_sem, Nat.reduceEqDiff, reduceIte, Int.reduceEq, Int.reduceLT, Int.reduceLE, Nat.reduceAdd, Nat.reduceLT, Nat.reduceLeDiff, Int.reduceToNat, Int.reduceSub, Int.reduceAdd, Int.reduceNeg]
  refine xptrU_at (sz := 2) rfl (by decide) (by decide) ?_
  simp only [h0, go_sem, Nat.reduceEqDiff, reduceIte, Int.reduceEq, Int.reduceLT, Int.reduceLE, Nat.reduceAdd, Nat.reduceLT, Nat.reduceLeDiff, Int.reduceToNat, Int.reduceSub, Int.reduceAdd, Int.reduceNeg]
  exact leave_all .nil (by simp) rfl rfl ⟨rfl, rfl⟩
def usedB (s k n : Nat) : List IV := [.ptr s 0 0, .sl k 0 n n]
def freshB : List IV := [.raw (.pointer none), .raw (.slice none 0 0)]
theorem convB_bytes (L : List Blk) (m : Ren) (ty : Nat) (bs : List UInt8) : convB L 12 m (.tcells ty 1 (bytesRows bs)) = some (.tcells ty 1 (bytesRows bs)) := by
  show (mapO (mapO (conv L 12 m)) (bytesRows bs)).map _ = _
  rw [mapO_bytes]; rfl
theorem convB_used (L : List Blk) {m : Ren} {s k s' k' n : Nat} (h1 : m s = some (some s')) (h2 : m k = some (some k')) : convB L 12 m (.tcells 47 2 [usedB s k n]) = some (.tcells 47 2 [usedB s' k' n]) := by
  simp only [convB, usedB, mapO, conv, h1, h2, Option.map_some]
theorem copyCheck_used (hP : E.P = Tryz.prog) (bs : List UInt8) : XT E 39 [.ptr 0 0 0] [.tcells 47 2 [usedB 0 1 bs.length], .tcells 5 1 (bytesRows bs)] fun r L1 => r = .tup [] ∧ L1 = [.tcells 47 2 [usedB 0 1 bs.length], .tcells 5 1 (bytesRows bs)] := by
  unfold usedB
  refine xt_of_fun (F := ⟨Tryz.f39.ntmps, [], y76⟩) (by rw [hP]; rfl) (by rw [hP]; kernel_rfl) (by decide) (Nat.le_of_ble_eq_true rfl) (xfun0 ?_)
  generalize hρ : entry _ = ρ
  have h0 : ρ 0 = .ptr 0 0 0 := by rw [← hρ]; rfl
  clear hρ
  unfold y76
  simp only [h0, go_sem, Nat.reduceEqDiff, reduceIte, Int.reduceEq, Int.reduceLT, Int.reduceLE, Nat.reduceAdd, Nat.reduceLT, Nat.reduceLeDiff, Int.reduceToNat, Int.reduceSub, Int.reduceAdd, Int.reduceNeg]
  refine leave_all (keep := []) (r' := .tup []) (L'' := [.tcells 47 2 [usedB 0 1 bs.length], .tcells 5 1 (bytesRows bs)]) .nil ?_ ?_ ?_ ?_
  · simp
  · rfl
  case refine_4 => exact ⟨rfl, rfl⟩
  show mapO (convB _ 12 _) [.tcells 47 2 [usedB 0 1 bs.length], .tcells 5 1 (bytesRows bs)] = _
  simp only [mapO, convB_bytes, convB_used (s := 0) (k := 1) (s' := 0) (k' := 1) _ (m := renLeave 2 []) rfl rfl]

/-- Bytes behind bytes. -/
theorem appG_used {ty g t n : Nat} {bs x : List UInt8} {xv : IV} (hn : n = bs.length) (hL : L[t]? = some (.tcells ty 1 (bytesRows bs))) (hx : rowsOf L xv = some (bytesRows x)) (hg : g = L.length) (hne : x ≠ []) (hb : bs.length + x.length ≤ 70368744177664)
    (h : K (.sl g 0 (bs.length + x.length) (bs.length + x.length)) (L.set t .dead ++ [.tcells ty 1 (bytesRows (bs ++ x))])) : xappT ty 1 (.sl t 0 n n) xv g L K := by
  subst hn
  unfold xappT
  rw [hx]
  refine ⟨bytesRows_rowsC x, rfl, rfl, ?_⟩
  rw [hL]
  refine ⟨rfl, rfl, bytesRows_len bs, fun h0 => absurd (List.eq_nil_of_length_eq_zero (by rw [← bytesRows_len x, h0]; rfl)) hne, fun _ => ?_⟩
  rw [bytesRows_len, Nat.mul_one, ← bytesRows_app]
  refine ⟨hb, ?_⟩
  unfold layAt
  rw [if_pos (by rw [List.length_set]; exact hg)]
  exact h
theorem appG_nil {ty g : Nat} {x : List UInt8} {xv : IV} (hx : rowsOf L xv = some (bytesRows x)) (hg : g = L.length) (hne : x ≠ []) (hb : x.length ≤ 70368744177664)
    (h : K (.sl g 0 x.length x.length) (L ++ [.tcells ty 1 (bytesRows x)])) : xappT ty 1 (.raw (.slice none 0 0)) xv g L K := by
  unfold xappT
  rw [hx]
  refine ⟨bytesRows_rowsC x, fun h0 => absurd (List.eq_nil_of_length_eq_zero (by rw [← bytesRows_len x, h0]; rfl)) hne, fun _ => ?_⟩
  rw [bytesRows_len, Nat.mul_one]
  refine ⟨hb, ?_⟩
  unfold layAt
  rw [if_pos hg]
  exact h

/-- What a Write.. does. -/
def WrOk (E : Env) (f : FuncId) (av : List IV) (x : List UInt8) (res : IV) : Prop :=
  XT E f (.ptr 0 0 0 :: av) [.tcells 47 2 [freshB]] (fun r L1 => r = res ∧ L1 = [.tcells 47 2 [usedB 0 1 x.length], .tcells 5 1 (bytesRows x)]) ∧
  ∀ bs : List UInt8, bs.length + x.length ≤ 70368744177664 → XT E f (.ptr 0 0 0 :: av) [.tcells 47 2 [usedB 0 1 bs.length], .tcells 5 1 (bytesRows bs)]
    (fun r L1 => r = res ∧ L1 = [.tcells 47 2 [usedB 0 2 (bs.length + x.length)], .dead, .tcells 5 1 (bytesRows (bs ++ x))])
theorem used_copy (hP : E.P = Tryz.prog) {Q : IV → List Blk → Prop} {bs : List UInt8} (h : K (.tup []) [.tcells 47 2 [[.ptr 0 0 0, .sl 1 0 bs.length bs.length]], .tcells 5 1 (bytesRows bs)]) :
    xcall E 39 [.ptr 0 0 0] [.tcells 47 2 [[.ptr 0 0 0, .sl 1 0 bs.length bs.length]], .tcells 5 1 (bytesRows bs)] K := by
  refine xcall_sel [0, 1] (by simp) (al2 rfl rfl) (args' := [.ptr 0 0 0]) rfl (L0 := [.tcells 47 2 [usedB 0 1 bs.length], .tcells 5 1 (bytesRows bs)]) ?_ (copyCheck_used hP bs) ?_
  · show mapO (convB _ 12 _) [.tcells 47 2 [usedB 0 1 bs.length], .tcells 5 1 (bytesRows bs)] = _
    simp only [mapO, convB_bytes, convB_used (s := 0) (k := 1) (s' := 0) (k' := 1) _ (m := renSel [0, 1] [] false) rfl rfl]
  rintro r L1 ⟨rfl, rfl⟩
  refine ⟨.tup [], [.tcells 47 2 [usedB 0 1 bs.length], .tcells 5 1 (bytesRows bs)], rfl, ?_, h⟩
  show mapO (convB _ 12 _) [.tcells 47 2 [usedB 0 1 bs.length], .tcells 5 1 (bytesRows bs)] = _
  simp only [mapO, convB_bytes, convB_used (s := 0) (k := 1) (s' := 0) (k' := 1) _ (m := renBack [0, 1] _) rfl rfl]
theorem fresh_copy (hP : E.P = Tryz.prog) (h : K (.tup []) [.tcells 47 2 [[.ptr 0 0 0, .raw (.slice none 0 0)]]]) :
    xcall E 39 [.ptr 0 0 0] [.tcells 47 2 [[.raw (.pointer none), .raw (.slice none 0 0)]]] K := by
  refine xcall_sel [0] (by simp) (al1 rfl) (args' := [.ptr 0 0 0]) rfl (L0 := [.tcells 47 2 [[.raw (.pointer none), .raw (.slice none 0 0)]]]) rfl (copyCheck_fresh hP) ?_
  rintro r L1 ⟨rfl, rfl⟩
  exact ⟨.tup [], _, rfl, rfl, h⟩

theorem write_ok (hP : E.P = Tryz.prog) (x : List UInt8) (hx : x ≠ []) (hb : x.length ≤ 1000000000) : WrOk E 23 [.str x] x (.tup [.int .i64 x.length, .raw .nilIface]) := by
  refine ⟨?_, fun bs hbs => ?_⟩
  · unfold freshB
    refine xt_of_fun (F := ⟨Tryz.f23.ntmps, [.tmp 4, .tmp 5], y51⟩) (by rw [hP]; rfl) (by rw [hP]; kernel_rfl) (by decide) (Nat.le_of_ble_eq_true rfl) (xfun2 ?_)
    generalize hρ : entry _ = ρ
    have h0 : ρ 0 = .ptr 0 0 0 := by rw [← hρ]; rfl
    have h1 : ρ 1 = .str x := by rw [← hρ]; rfl
    clear hρ
    unfold y51
    simp only [h0, h1, go_sem, Nat.reduceEqDiff, reduceIte, Int.reduceEq, Int.reduceLT, Int.reduceLE, Nat.reduceAdd, Nat.reduceLT, Nat.reduceLeDiff, Int.reduceToNat, Int.reduceSub, Int.reduceAdd, Int.reduceNeg]
    refine fresh_copy (E := E.noPan) hP ?_
    simp only [h0, h1, go_sem, Nat.reduceEqDiff, reduceIte, Int.reduceEq, Int.reduceLT, Int.reduceLE, Nat.reduceAdd, Nat.reduceLT, Nat.reduceLeDiff, Int.reduceToNat, Int.reduceSub, Int.reduceAdd, Int.reduceNeg]
    refine appG_nil (rowsOf_str _ _) rfl hx (by omega) ?_
    simp only [h0, h1, go_sem, Nat.reduceEqDiff, reduceIte, Int.reduceEq, Int.reduceLT, Int.reduceLE, Nat.reduceAdd, Nat.reduceLT, Nat.reduceLeDiff, Int.reduceToNat, Int.reduceSub, Int.reduceAdd, Int.reduceNeg]
    refine leave_all (keep := [1]) (r' := .tup [.int .i64 x.length, .raw .nilIface]) (L'' := [.tcells 47 2 [usedB 0 1 x.length], .tcells 5 1 (bytesRows x)]) ?_ ?_ ?_ ?_ ?_
    · simp
    · simp
    · rfl
    case refine_5 => exact ⟨rfl, rfl⟩
    show mapO (convB _ 12 _) [.tcells 47 2 [usedB 0 1 x.length], .tcells 5 1 (bytesRows x)] = _
    simp only [mapO, convB_bytes, convB_used (s := 0) (k := 1) (s' := 0) (k' := 1) _ (m := renLeave 1 [1]) rfl rfl]
  · unfold usedB
    refine xt_of_fun (F := ⟨Tryz.f23.ntmps, [.tmp 4, .tmp 5], y51⟩) (by rw [hP]; rfl) (by rw [hP]; kernel_rfl) (by decide) (Nat.le_of_ble_eq_true rfl) (xfun2 ?_)
    generalize hρ : entry _ = ρ
    have h0 : ρ 0 = .ptr 0 0 0 := by rw [← hρ]; rfl
    have h1 : ρ 1 = .str x := by rw [← hρ]; rfl
    clear hρ
    unfold y51
    simp only [h0, h1, go_sem, Nat.reduceEqDiff, reduceIte, Int.reduceEq, Int.reduceLT, Int.reduceLE, Nat.reduceAdd, Nat.reduceLT, Nat.reduceLeDiff, Int.reduceToNat, Int.reduceSub, Int.reduceAdd, Int.reduceNeg]
    refine used_copy (E := E.noPan) hP (Q := fun _ _ => True) ?_
    simp only [h0, h1, go_sem, Nat.reduceEqDiff, reduceIte, Int.reduceEq, Int.reduceLT, Int.reduceLE, Nat.reduceAdd, Nat.reduceLT, Nat.reduceLeDiff, Int.reduceToNat, Int.reduceSub, Int.reduceAdd, Int.reduceNeg]
    refine appG_used rfl rfl (rowsOf_str _ _) rfl hx hbs ?_
    simp only [h0, h1, go_sem, Nat.reduceEqDiff, reduceIte, Int.reduceEq, Int.reduceLT, Int.reduceLE, Nat.reduceAdd, Nat.reduceLT, Nat.reduceLeDiff, Int.reduceToNat, Int.reduceSub, Int.reduceAdd, Int.reduceNeg]
    refine leave_all (keep := [2]) (r' := .tup [.int .i64 x.length, .raw .nilIface]) (L'' := [.tcells 47 2 [usedB 0 2 (bs.length + x.length)], .dead, .tcells 5 1 (bytesRows (bs ++ x))]) ?_ ?_ ?_ ?_ ?_
    · simp
    · simp
    · rfl
    case refine_5 => exact ⟨rfl, rfl⟩
    show mapO (convB _ 12 _) [.tcells 47 2 [usedB 0 2 (bs.length + x.length)], .dead, .tcells 5 1 (bytesRows (bs ++ x))] = _
    simp only [mapO, convB_bytes, convB_used (s := 0) (k := 2) (s' := 0) (k' := 2) _ (m := renLeave 2 [2]) rfl rfl]
    rfl
theorem writeByte_ok (hP : E.P = Tryz.prog) (b : UInt8) : WrOk E 20 [.int .u8 b.toNat] [b] (.raw .nilIface) := by
  refine ⟨?_, fun bs hbs => ?_⟩
  · unfold freshB
    refine xt_of_fun (F := ⟨Tryz.f20.ntmps, [.tmp 4], y48⟩) (by rw [hP]; rfl) (by rw [hP]; kernel_rfl) (by decide) (Nat.le_of_ble_eq_true rfl) (xfun1 ?_)
    generalize hρ : entry _ = ρ
    have h0 : ρ 0 = .ptr 0 0 0 := by rw [← hρ]; rfl
    have h1 : ρ 1 = .int .u8 b.toNat := by rw [← hρ]; rfl
    clear hρ
    unfold y48
    simp only [h0, h1, go_sem, Nat.reduceEqDiff, reduceIte, Int.reduceEq, Int.reduceLT, Int.reduceLE, Nat.reduceAdd, Nat.reduceLT, Nat.reduceLeDiff, Int.reduceToNat, Int.reduceSub, Int.reduceAdd, Int.reduceNeg]
    refine fresh_copy (E := E.noPan) hP ?_
    simp only [h0, h1, go_sem, Nat.reduceEqDiff, reduceIte, Int.reduceEq, Int.reduceLT, Int.reduceLE, Nat.reduceAdd, Nat.reduceLT, Nat.reduceLeDiff, Int.reduceToNat, Int.reduceSub, Int.reduceAdd, Int.reduceNeg]
    refine appG_nil (x := [b]) rfl rfl (by simp) (by simp) ?_
    simp only [h0, h1, go_sem, Nat.reduceEqDiff, reduceIte, Int.reduceEq, Int.reduceLT, Int.reduceLE, Nat.reduceAdd, Nat.reduceLT, Nat.reduceLeDiff, Int.reduceToNat, Int.reduceSub, Int.reduceAdd, Int.reduceNeg]
    refine leave_all (keep := [2]) (r' := .raw .nilIface) (L'' := [.tcells 47 2 [usedB 0 1 [b].length], .tcells 5 1 (bytesRows [b])]) ?_ ?_ ?_ ?_ ?_
    · simp
    · simp
    · rfl
    case refine_5 => exact ⟨rfl, rfl⟩
    show mapO (convB _ 12 _) [.tcells 47 2 [usedB 0 2 [b].length], .tcells 5 1 (bytesRows [b])] = _
    simp only [mapO, convB_bytes, convB_used (s := 0) (k := 2) (s' := 0) (k' := 1) _ (m := renLeave 1 [2]) rfl rfl]
  · unfold usedB
    refine xt_of_fun (F := ⟨Tryz.f20.ntmps, [.tmp 4], y48⟩) (by rw [hP]; rfl) (by rw [hP]; kernel_rfl) (by decide) (Nat.le_of_ble_eq_true rfl) (xfun1 ?_)
    generalize hρ : entry _ = ρ
    have h0 : ρ 0 = .ptr 0 0 0 := by rw [← hρ]; rfl
    have h1 : ρ 1 = .int .u8 b.toNat := by rw [← hρ]; rfl
    clear hρ
    unfold y48
    simp only [h0, h1, go_sem, Nat.reduceEqDiff, reduceIte, Int.reduceEq, Int.reduceLT, Int.reduceLE, Nat.reduceAdd, Nat.reduceLT, Nat.reduceLeDiff, Int.reduceToNat, Int.reduceSub, Int.reduceAdd, Int.reduceNeg]
    refine used_copy (E := E.noPan) hP (Q := fun _ _ => True) ?_
    simp only [h0, h1, go_sem, Nat.reduceEqDiff, reduceIte, Int.reduceEq, Int.reduceLT, Int.reduceLE, Nat.reduceAdd, Nat.reduceLT, Nat.reduceLeDiff, Int.reduceToNat, Int.reduceSub, Int.reduceAdd, Int.reduceNeg]
    refine appG_used (x := [b]) rfl rfl rfl rfl (by simp) hbs ?_
    simp only [h0, h1, go_sem, Nat.reduceEqDiff, reduceIte, Int.reduceEq, Int.reduceLT, Int.reduceLE, Nat.reduceAdd, Nat.reduceLT, Nat.reduceLeDiff, Int.reduceToNat, Int.reduceSub, Int.reduceAdd, Int.reduceNeg]
    refine leave_all (keep := [3]) (r' := .raw .nilIface) (L'' := [.tcells 47 2 [usedB 0 2 (bs.length + [b].length)], .dead, .tcells 5 1 (bytesRows (bs ++ [b]))]) ?_ ?_ ?_ ?_ ?_
    · simp
    · simp
    · rfl
    case refine_5 => exact ⟨rfl, rfl⟩
    show mapO (convB _ 12 _) [.tcells 47 2 [usedB 0 3 (bs.length + [b].length)], .dead, .tcells 5 1 (bytesRows (bs ++ [b]))] = _
    simp only [mapO, convB_bytes, convB_used (s := 0) (k := 3) (s' := 0) (k' := 2) _ (m := renLeave 2 [3]) rfl rfl]
    rfl

/-! ### Runes -/
theorem u8n (n : Nat) (h : n < 256) : IntKind.u8.wrap (n : Int) = n := by rw [IntKind.wrap_u8]; omega
theorem u8orN (a b : Nat) (ha : a < 256) (hb : b < 256) : IntKind.u8.wrap (BitVec.ofInt 8 (a : Int) ||| BitVec.ofInt 8 (b : Int)).toNat = ((a ||| b : Nat) : Int) := by
  have h1 : (BitVec.ofInt 8 (a : Int) ||| BitVec.ofInt 8 (b : Int)).toNat = a ||| b := by
    rw [BitVec.toNat_or]
    have e2 : (BitVec.ofInt 8 (a : Int)).toNat = a := by simp only [BitVec.toNat_ofInt]; omega
    have e3 : (BitVec.ofInt 8 (b : Int)).toNat = b := by simp only [BitVec.toNat_ofInt]; omega
    rw [e2, e3]
  rw [h1]
  exact u8n _ (Nat.or_lt_two_pow (n := 8) ha hb)
theorem u8andN (a b : Nat) (ha : a < 256) (hb : b < 256) : IntKind.u8.wrap (BitVec.ofInt 8 (a : Int) &&& BitVec.ofInt 8 (b : Int)).toNat = ((a &&& b : Nat) : Int) := by
  have h1 : (BitVec.ofInt 8 (a : Int) &&& BitVec.ofInt 8 (b : Int)).toNat = a &&& b := by
    rw [BitVec.toNat_and]
    have e2 : (BitVec.ofInt 8 (a : Int)).toNat = a := by simp only [BitVec.toNat_ofInt]; omega
    have e3 : (BitVec.ofInt 8 (b : Int)).toNat = b := by simp only [BitVec.toNat_ofInt]; omega
    rw [e2, e3]
  rw [h1]
  exact u8n _ (Nat.lt_of_le_of_lt Nat.and_le_left ha)
theorem or_hi (a i x : Nat) (h : x < 2 ^ i) : a * 2 ^ i ||| x = a * 2 ^ i + x := by
  have := Nat.shiftLeft_add_eq_or_of_lt h a
  rw [Nat.shiftLeft_eq] at this
  exact this.symm
theorem fdivN (a b : Nat) : ((a : Int)).fdiv (b : Int) = ((a / b : Nat) : Int) := by
  rw [Int.fdiv_eq_ediv_of_nonneg _ (by omega)]; rfl
/-- 0x80 | byte(x) & 0x3f -/
theorem b_tail (x : Nat) : IntKind.u8.wrap (BitVec.ofInt 8 128 ||| BitVec.ofInt 8 (IntKind.u8.wrap (BitVec.ofInt 8 (IntKind.u8.wrap (x : Int)) &&& BitVec.ofInt 8 63).toNat)).toNat = ((128 + x % 64 : Nat) : Int) := by
  have e0 : IntKind.u8.wrap (x : Int) = ((x % 256 : Nat) : Int) := by rw [IntKind.wrap_u8]; omega
  have e1 := u8andN (x % 256) 63 (by omega) (by omega)
  have e2 : x % 256 &&& 63 = x % 64 := by
    rw [show (63 : Nat) = 2 ^ 6 - 1 from rfl, Nat.and_two_pow_sub_one_eq_mod]; omega
  have e3 := u8orN 128 (x % 64) (by omega) (by omega)
  have e4 : 128 ||| x % 64 = 128 + x % 64 := or_hi 2 6 (x % 64) (by omega)
  rw [e0]
  rw [e2] at e1
  rw [show (((63 : Nat) : Int)) = 63 from rfl] at e1
  rw [e1]
  rw [e4] at e3
  exact e3
/-- 0xC0 | byte(x) and so on -/
theorem b_head (a i x : Nat) (ha : a * 2 ^ i < 256) (hi : x < 2 ^ i) (hi8 : 2 ^ i ≤ 256) : IntKind.u8.wrap (BitVec.ofInt 8 ((a * 2 ^ i : Nat) : Int) ||| BitVec.ofInt 8 (IntKind.u8.wrap (x : Int))).toNat = ((a * 2 ^ i + x : Nat) : Int) := by
  rw [u8n x (by omega), u8orN (a * 2 ^ i) x ha (by omega), or_hi a i x hi]
theorem enc1 (r : Nat) (h : r ≤ 127) : bytesRows (Lib.encodeRune (r : Int)) = [[.int .u8 (r : Int)]] := by
  unfold Lib.encodeRune
  rw [Lib.encodeRuneZ_one (by omega) (by omega)]
  simp only [List.map_cons, List.map_nil, bytesRows, Int.toNat_natCast]
  have : (r.toUInt8.toNat : Int) = r := by simp; omega
  rw [this]
theorem enc_row (n : Nat) (h : n < 256) : (((n : Int).toNat.toUInt8).toNat : Int) = n := by simp; omega
theorem enc2 (r : Nat) (h0 : 128 ≤ r) (h : r ≤ 2047) : bytesRows (Lib.encodeRune (r : Int)) = [[.int .u8 ((192 + r / 64 : Nat) : Int)], [.int .u8 ((128 + r % 64 : Nat) : Int)]] := by
  unfold Lib.encodeRune
  rw [Lib.encodeRuneZ_two (by omega) (by omega)]
  have e1 : (192 + (r : Int) / 64) = ((192 + r / 64 : Nat) : Int) := by omega
  have e2 : (128 + (r : Int) % 64) = ((128 + r % 64 : Nat) : Int) := by omega
  rw [e1, e2]
  simp only [List.map_cons, List.map_nil, bytesRows]
  rw [enc_row _ (by omega), enc_row _ (by omega)]
theorem enc3 (r : Nat) (h : (2048 ≤ r ∧ r < 55296) ∨ (57343 < r ∧ r ≤ 65535)) : bytesRows (Lib.encodeRune (r : Int)) = [[.int .u8 ((224 + r / 4096 : Nat) : Int)], [.int .u8 ((128 + r / 64 % 64 : Nat) : Int)], [.int .u8 ((128 + r % 64 : Nat) : Int)]] := by
  unfold Lib.encodeRune
  rw [Lib.encodeRuneZ_three (by omega)]
  have e1 : (224 + (r : Int) / 4096) = ((224 + r / 4096 : Nat) : Int) := by omega
  have e2 : (128 + (r : Int) / 64 % 64) = ((128 + r / 64 % 64 : Nat) : Int) := by omega
  have e3 : (128 + (r : Int) % 64) = ((128 + r % 64 : Nat) : Int) := by omega
  rw [e1, e2, e3]
  simp only [List.map_cons, List.map_nil, bytesRows]
  rw [enc_row _ (by omega), enc_row _ (by omega), enc_row _ (by omega)]
theorem enc4 (r : Nat) (h0 : 65536 ≤ r) (h : r ≤ 1114111) : bytesRows (Lib.encodeRune (r : Int)) = [[.int .u8 ((240 + r / 262144 : Nat) : Int)], [.int .u8 ((128 + r / 4096 % 64 : Nat) : Int)], [.int .u8 ((128 + r / 64 % 64 : Nat) : Int)], [.int .u8 ((128 + r % 64 : Nat) : Int)]] := by
  unfold Lib.encodeRune
  rw [Lib.encodeRuneZ_four (by omega) (by omega)]
  have e1 : (240 + (r : Int) / 262144) = ((240 + r / 262144 : Nat) : Int) := by omega
  have e2 : (128 + (r : Int) / 4096 % 64) = ((128 + r / 4096 % 64 : Nat) : Int) := by omega
  have e3 : (128 + (r : Int) / 64 % 64) = ((128 + r / 64 % 64 : Nat) : Int) := by omega
  have e4 : (128 + (r : Int) % 64) = ((128 + r % 64 : Nat) : Int) := by omega
  rw [e1, e2, e3, e4]
  simp only [List.map_cons, List.map_nil, bytesRows]
  rw [enc_row _ (by omega), enc_row _ (by omega), enc_row _ (by omega), enc_row _ (by omega)]
theorem encBad (r : Nat) (h : (55296 ≤ r ∧ r ≤ 57343) ∨ 1114111 < r) : bytesRows (Lib.encodeRune (r : Int)) = [[.int .u8 239], [.int .u8 191], [.int .u8 189]] := by
  have : Lib.encodeRune (r : Int) = [239, 191, 189] := by
    unfold Lib.encodeRune Lib.encodeRuneZ
    rw [if_neg (by omega), if_neg (by omega), if_neg (by omega), if_neg (by omega)]; rfl
  rw [this]; rfl
end
end Go.X.TryzW
end
section
open Go Go.X Go.Proofs
set_option maxRecDepth 100000
set_option maxHeartbeats 4000000
set_option linter.unusedSimpArgs false
set_option linter.unusedVariables false
namespace Go.X.TryzW
section
variable {E : Env} {L : List Blk} {K : IV → List Blk → Prop}
theorem enc_ne (r : Int) : Lib.encodeRune r ≠ [] := by
  unfold Lib.encodeRune Lib.encodeRuneZ
  split
  · simp
  · split
    · simp
    · split
      · simp
      · split <;> simp
theorem enc_len (r : Int) : (Lib.encodeRune r).length ≤ 4 := by
  unfold Lib.encodeRune Lib.encodeRuneZ
  split
  · simp
  · split
    · simp
    · split
      · simp
      · split <;> simp
@[go_sem] theorem o_bslice3 {sz : Nat} {zero : List IV} {x y z : IV} {KV : IV → List Blk → Prop} (h1 : zero.length = sz) (h2 : (cellsOf x).length = sz) (h3 : (cellsOf y).length = sz) (h4 : (cellsOf z).length = sz) : xop E (.bslice sz zero 3 [(0, .c x), (1, .c y), (2, .c z)]) cev L KV = KV (.sl L.length 0 3 3) (L ++ [.cells sz [cellsOf x, cellsOf y, cellsOf z]]) := by
  simp [xop, xfillRows, h1, h2, h3, h4, cev_c, List.replicate]
@[go_sem] theorem o_bslice4 {sz : Nat} {zero : List IV} {x y z u : IV} {KV : IV → List Blk → Prop} (h1 : zero.length = sz) (h2 : (cellsOf x).length = sz) (h3 : (cellsOf y).length = sz) (h4 : (cellsOf z).length = sz) (h5 : (cellsOf u).length = sz) : xop E (.bslice sz zero 4 [(0, .c x), (1, .c y), (2, .c z), (3, .c u)]) cev L KV = KV (.sl L.length 0 4 4) (L ++ [.cells sz [cellsOf x, cellsOf y, cellsOf z, cellsOf u]]) := by
  simp [xop, xfillRows, h1, h2, h3, h4, h5, cev_c, List.replicate]
theorem c2 {a b a' b' : Int} {l : List (List IV)} (h : l = [[.int .u8 a'], [.int .u8 b']]) (h1 : a = a') (h2 : b = b') : some [[IV.int .u8 a], [IV.int .u8 b]] = some l := by rw [h, h1, h2]
theorem c3 {a b c a' b' c' : Int} {l : List (List IV)} (h : l = [[.int .u8 a'], [.int .u8 b'], [.int .u8 c']]) (h1 : a = a') (h2 : b = b') (h3 : c = c') : some [[IV.int .u8 a], [IV.int .u8 b], [IV.int .u8 c]] = some l := by rw [h, h1, h2, h3]
theorem c4 {a b c d a' b' c' d' : Int} {l : List (List IV)} (h : l = [[.int .u8 a'], [.int .u8 b'], [.int .u8 c'], [.int .u8 d']]) (h1 : a = a') (h2 : b = b') (h3 : c = c') (h4 : d = d') : some [[IV.int .u8 a], [IV.int .u8 b], [IV.int .u8 c], [IV.int .u8 d]] = some l := by rw [h, h1, h2, h3, h4]
theorem shrN (r i : Nat) (p : Int) (hp : p = ((2 ^ i : Nat) : Int)) : (r : Int).fdiv p = ((r / 2 ^ i : Nat) : Int) := by rw [hp, fdivN]

theorem nonascii_nil (hP : E.P = Tryz.prog) (r : Nat) (h128 : 128 ≤ r) (hr : r < 2147483648) : XT E 132 [.raw (.slice none 0 0), .int .i32 r] [] fun v L1 => v = .sl 0 0 (Lib.encodeRune (r : Int)).length (Lib.encodeRune (r : Int)).length ∧ L1 = [.tcells 5 1 (bytesRows (Lib.encodeRune (r : Int)))] := by
  have hne := enc_ne (r : Int)
  have hel := enc_len (r : Int)
  refine xt_of_fun (F := ⟨Tryz.f132.ntmps, [.tmp 4], y129⟩) (by rw [hP]; rfl) (by rw [hP]; kernel_rfl) (by decide) (Nat.le_of_ble_eq_true rfl) (xfun1 ?_)
  generalize hρ : entry _ = ρ
  have h0 : ρ 0 = .raw (.slice none 0 0) := by rw [← hρ]; rfl
  have h1 : ρ 1 = .int .i32 r := by rw [← hρ]; rfl
  clear hρ
  unfold y129
  have hu : IntKind.u32.wrap (r : Int) = (r : Int) := by simp [IntKind.wrap, IntKind.bits, IntKind.signed]; omega
  simp only [h0, h1, hu, go_sem, Nat.reduceEqDiff, reduceIte, Int.reduceEq, Int.reduceLT, Int.reduceLE, Nat.reduceAdd, Nat.reduceLT, Nat.reduceLeDiff, Int.reduceToNat, Int.reduceSub, Int.reduceAdd, Int.reduceNeg]
  by_cases c1 : r ≤ 2047
  · have f1 : ((r : Int) ≤ 2047) = True := eq_true (by omega)
    simp only [h0, h1, f1, go_sem, Nat.reduceEqDiff, reduceIte, Int.reduceEq, Int.reduceLT, Int.reduceLE, Nat.reduceAdd, Nat.reduceLT, Nat.reduceLeDiff, Int.reduceToNat, Int.reduceSub, Int.reduceAdd, Int.reduceNeg]
    refine appG_nil (x := (Lib.encodeRune (r : Int))) (c2 (enc2 r h128 c1) ((congrArg (fun z : Int => IntKind.u8.wrap (BitVec.ofInt 8 192 ||| BitVec.ofInt 8 (IntKind.u8.wrap z)).toNat) (shrN r 6 _ rfl)).trans (b_head 6 5 (r / 64) (by omega) (by omega) (by omega))) (b_tail r)) rfl hne (by omega) ?_
    simp only [h0, h1, go_sem, Nat.reduceEqDiff, reduceIte, Int.reduceEq, Int.reduceLT, Int.reduceLE, Nat.reduceAdd, Nat.reduceLT, Nat.reduceLeDiff, Int.reduceToNat, Int.reduceSub, Int.reduceAdd, Int.reduceNeg]
    · refine leave_all (keep := [1]) (r' := .sl 0 0 (Lib.encodeRune (r : Int)).length (Lib.encodeRune (r : Int)).length) (L'' := [.tcells 5 1 (bytesRows (Lib.encodeRune (r : Int)))]) ?_ ?_ ?_ ?_ ?_
      · simp
      · simp
      · rfl
      case refine_5 => exact ⟨rfl, rfl⟩
      show mapO (convB _ 12 _) [.tcells 5 1 (bytesRows (Lib.encodeRune (r : Int)))] = _
      simp only [mapO, convB_bytes]
  have f1 : ((r : Int) ≤ 2047) = False := eq_false (by omega)
  by_cases d2 : (2048 ≤ r ∧ r < 55296) ∨ (57343 < r ∧ r ≤ 65535)
  · have key : True := trivial
    by_cases d3 : r < 55296
    · have f2 : ((r : Int) < 55296) = True := eq_true (by omega)
      simp only [h0, h1, f1, f2, go_sem, Nat.reduceEqDiff, reduceIte, Int.reduceEq, Int.reduceLT, Int.reduceLE, Nat.reduceAdd, Nat.reduceLT, Nat.reduceLeDiff, Int.reduceToNat, Int.reduceSub, Int.reduceAdd, Int.reduceNeg]
      refine appG_nil (x := (Lib.encodeRune (r : Int))) (c3 (enc3 r d2) ((congrArg (fun z : Int => IntKind.u8.wrap (BitVec.ofInt 8 224 ||| BitVec.ofInt 8 (IntKind.u8.wrap z)).toNat) (shrN r 12 _ rfl)).trans (b_head 14 4 (r / 4096) (by omega) (by omega) (by omega))) ((congrArg (fun z : Int => IntKind.u8.wrap (BitVec.ofInt 8 128 ||| BitVec.ofInt 8 (IntKind.u8.wrap (BitVec.ofInt 8 (IntKind.u8.wrap z) &&& BitVec.ofInt 8 63).toNat)).toNat) (shrN r 6 _ rfl)).trans (b_tail (r / 64))) (b_tail r)) rfl hne (by omega) ?_
      simp only [h0, h1, go_sem, Nat.reduceEqDiff, reduceIte, Int.reduceEq, Int.reduceLT, Int.reduceLE, Nat.reduceAdd, Nat.reduceLT, Nat.reduceLeDiff, Int.reduceToNat, Int.reduceSub, Int.reduceAdd, Int.reduceNeg]
      refine leave_all (keep := [1]) (r' := .sl 0 0 (Lib.encodeRune (r : Int)).length (Lib.encodeRune (r : Int)).length) (L'' := [.tcells 5 1 (bytesRows (Lib.encodeRune (r : Int)))]) ?_ ?_ ?_ ?_ ?_
      · simp
      · simp
      · rfl
      case refine_5 => exact ⟨rfl, rfl⟩
      show mapO (convB _ 12 _) [.tcells 5 1 (bytesRows (Lib.encodeRune (r : Int)))] = _
      simp only [mapO, convB_bytes]
    · have f2 : ((r : Int) < 55296) = False := eq_false (by omega)
      have f3 : ((57343 : Int) < (r : Int)) = True := eq_true (by omega)
      have f4 : ((r : Int) ≤ 65535) = True := eq_true (by omega)
      simp only [h0, h1, f1, f2, f3, f4, go_sem, Nat.reduceEqDiff, reduceIte, Int.reduceEq, Int.reduceLT, Int.reduceLE, Nat.reduceAdd, Nat.reduceLT, Nat.reduceLeDiff, Int.reduceToNat, Int.reduceSub, Int.reduceAdd, Int.reduceNeg]
      refine appG_nil (x := (Lib.encodeRune (r : Int))) (c3 (enc3 r d2) ((congrArg (fun z : Int => IntKind.u8.wrap (BitVec.ofInt 8 224 ||| BitVec.ofInt 8 (IntKind.u8.wrap z)).toNat) (shrN r 12 _ rfl)).trans (b_head 14 4 (r / 4096) (by omega) (by omega) (by omega))) ((congrArg (fun z : Int => IntKind.u8.wrap (BitVec.ofInt 8 128 ||| BitVec.ofInt 8 (IntKind.u8.wrap (BitVec.ofInt 8 (IntKind.u8.wrap z) &&& BitVec.ofInt 8 63).toNat)).toNat) (shrN r 6 _ rfl)).trans (b_tail (r / 64))) (b_tail r)) rfl hne (by omega) ?_
      simp only [h0, h1, go_sem, Nat.reduceEqDiff, reduceIte, Int.reduceEq, Int.reduceLT, Int.reduceLE, Nat.reduceAdd, Nat.reduceLT, Nat.reduceLeDiff, Int.reduceToNat, Int.reduceSub, Int.reduceAdd, Int.reduceNeg]
      refine leave_all (keep := [1]) (r' := .sl 0 0 (Lib.encodeRune (r : Int)).length (Lib.encodeRune (r : Int)).length) (L'' := [.tcells 5 1 (bytesRows (Lib.encodeRune (r : Int)))]) ?_ ?_ ?_ ?_ ?_
      · simp
      · simp
      · rfl
      case refine_5 => exact ⟨rfl, rfl⟩
      show mapO (convB _ 12 _) [.tcells 5 1 (bytesRows (Lib.encodeRune (r : Int)))] = _
      simp only [mapO, convB_bytes]
  have f2 : ((r : Int) < 55296) = False := eq_false (by omega)
  by_cases d4 : 65536 ≤ r ∧ r ≤ 1114111
  · obtain ⟨c41, c42⟩ := d4
    have f3 : ((57343 : Int) < (r : Int)) = True := eq_true (by omega)
    have f4 : ((r : Int) ≤ 65535) = False := eq_false (by omega)
    have f5 : ((65535 : Int) < (r : Int)) = True := eq_true (by omega)
    have f6 : ((r : Int) ≤ 1114111) = True := eq_true (by omega)
    simp only [h0, h1, f1, f2, f3, f4, f5, f6, go_sem, Nat.reduceEqDiff, reduceIte, Int.reduceEq, Int.reduceLT, Int.reduceLE, Nat.reduceAdd, Nat.reduceLT, Nat.reduceLeDiff, Int.reduceToNat, Int.reduceSub, Int.reduceAdd, Int.reduceNeg]
    refine appG_nil (x := (Lib.encodeRune (r : Int))) (c4 (enc4 r c41 c42) ((congrArg (fun z : Int => IntKind.u8.wrap (BitVec.ofInt 8 240 ||| BitVec.ofInt 8 (IntKind.u8.wrap z)).toNat) (shrN r 18 _ rfl)).trans (b_head 30 3 (r / 262144) (by omega) (by omega) (by omega))) ((congrArg (fun z : Int => IntKind.u8.wrap (BitVec.ofInt 8 128 ||| BitVec.ofInt 8 (IntKind.u8.wrap (BitVec.ofInt 8 (IntKind.u8.wrap z) &&& BitVec.ofInt 8 63).toNat)).toNat) (shrN r 12 _ rfl)).trans (b_tail (r / 4096))) ((congrArg (fun z : Int => IntKind.u8.wrap (BitVec.ofInt 8 128 ||| BitVec.ofInt 8 (IntKind.u8.wrap (BitVec.ofInt 8 (IntKind.u8.wrap z) &&& BitVec.ofInt 8 63).toNat)).toNat) (shrN r 6 _ rfl)).trans (b_tail (r / 64))) (b_tail r)) rfl hne (by omega) ?_
    simp only [h0, h1, go_sem, Nat.reduceEqDiff, reduceIte, Int.reduceEq, Int.reduceLT, Int.reduceLE, Nat.reduceAdd, Nat.reduceLT, Nat.reduceLeDiff, Int.reduceToNat, Int.reduceSub, Int.reduceAdd, Int.reduceNeg]
    · refine leave_all (keep := [1]) (r' := .sl 0 0 (Lib.encodeRune (r : Int)).length (Lib.encodeRune (r : Int)).length) (L'' := [.tcells 5 1 (bytesRows (Lib.encodeRune (r : Int)))]) ?_ ?_ ?_ ?_ ?_
      · simp
      · simp
      · rfl
      case refine_5 => exact ⟨rfl, rfl⟩
      show mapO (convB _ 12 _) [.tcells 5 1 (bytesRows (Lib.encodeRune (r : Int)))] = _
      simp only [mapO, convB_bytes]
  have hb := encBad r (by omega)
  by_cases c5 : 57343 < r
  · have f3 : ((57343 : Int) < (r : Int)) = True := eq_true (by omega)
    have f4 : ((r : Int) ≤ 65535) = False := eq_false (by omega)
    have f5 : ((65535 : Int) < (r : Int)) = True := eq_true (by omega)
    have f6 : ((r : Int) ≤ 1114111) = False := eq_false (by omega)
    simp only [h0, h1, f1, f2, f3, f4, f5, f6, go_sem, Nat.reduceEqDiff, reduceIte, Int.reduceEq, Int.reduceLT, Int.reduceLE, Nat.reduceAdd, Nat.reduceLT, Nat.reduceLeDiff, Int.reduceToNat, Int.reduceSub, Int.reduceAdd, Int.reduceNeg]
    refine appG_nil (x := (Lib.encodeRune (r : Int))) (by rw [hb]; rfl) rfl hne (by omega) ?_
    simp only [h0, h1, go_sem, Nat.reduceEqDiff, reduceIte, Int.reduceEq, Int.reduceLT, Int.reduceLE, Nat.reduceAdd, Nat.reduceLT, Nat.reduceLeDiff, Int.reduceToNat, Int.reduceSub, Int.reduceAdd, Int.reduceNeg]
    · refine leave_all (keep := [1]) (r' := .sl 0 0 (Lib.encodeRune (r : Int)).length (Lib.encodeRune (r : Int)).length) (L'' := [.tcells 5 1 (bytesRows (Lib.encodeRune (r : Int)))]) ?_ ?_ ?_ ?_ ?_
      · simp
      · simp
      · rfl
      case refine_5 => exact ⟨rfl, rfl⟩
      show mapO (convB _ 12 _) [.tcells 5 1 (bytesRows (Lib.encodeRune (r : Int)))] = _
      simp only [mapO, convB_bytes]
  · have f3 : ((57343 : Int) < (r : Int)) = False := eq_false (by omega)
    have f5 : ((65535 : Int) < (r : Int)) = False := eq_false (by omega)
    simp only [h0, h1, f1, f2, f3, f5, go_sem, Nat.reduceEqDiff, reduceIte, Int.reduceEq, Int.reduceLT, Int.reduceLE, Nat.reduceAdd, Nat.reduceLT, Nat.reduceLeDiff, Int.reduceToNat, Int.reduceSub, Int.reduceAdd, Int.reduceNeg]
    refine appG_nil (x := (Lib.encodeRune (r : Int))) (by rw [hb]; rfl) rfl hne (by omega) ?_
    simp only [h0, h1, go_sem, Nat.reduceEqDiff, reduceIte, Int.reduceEq, Int.reduceLT, Int.reduceLE, Nat.reduceAdd, Nat.reduceLT, Nat.reduceLeDiff, Int.reduceToNat, Int.reduceSub, Int.reduceAdd, Int.reduceNeg]
    · refine leave_all (keep := [1]) (r' := .sl 0 0 (Lib.encodeRune (r : Int)).length (Lib.encodeRune (r : Int)).length) (L'' := [.tcells 5 1 (bytesRows (Lib.encodeRune (r : Int)))]) ?_ ?_ ?_ ?_ ?_
      · simp
      · simp
      · rfl
      case refine_5 => exact ⟨rfl, rfl⟩
      show mapO (convB _ 12 _) [.tcells 5 1 (bytesRows (Lib.encodeRune (r : Int)))] = _
      simp only [mapO, convB_bytes]
theorem append_nil (hP : E.P = Tryz.prog) (r : Nat) (hr : r < 2147483648) : XT E 129 [.raw (.slice none 0 0), .int .i32 r] [] fun v L1 => v = .sl 0 0 (Lib.encodeRune (r : Int)).length (Lib.encodeRune (r : Int)).length ∧ L1 = [.tcells 5 1 (bytesRows (Lib.encodeRune (r : Int)))] := by
  have hne := enc_ne (r : Int)
  have hel := enc_len (r : Int)
  refine xt_of_fun (F := ⟨Tryz.f129.ntmps, [.tmp 4], y125⟩) (by rw [hP]; rfl) (by rw [hP]; kernel_rfl) (by decide) (Nat.le_of_ble_eq_true rfl) (xfun1 ?_)
  generalize hρ : entry _ = ρ
  have h0 : ρ 0 = .raw (.slice none 0 0) := by rw [← hρ]; rfl
  have h1 : ρ 1 = .int .i32 r := by rw [← hρ]; rfl
  clear hρ
  unfold y125
  have hu : IntKind.u32.wrap (r : Int) = (r : Int) := by simp [IntKind.wrap, IntKind.bits, IntKind.signed]; omega
  simp only [h0, h1, hu, go_sem, Nat.reduceEqDiff, reduceIte, Int.reduceEq, Int.reduceLT, Int.reduceLE, Nat.reduceAdd, Nat.reduceLT, Nat.reduceLeDiff, Int.reduceToNat, Int.reduceSub, Int.reduceAdd, Int.reduceNeg]
  by_cases c1 : r ≤ 127
  · have f1 : ((r : Int) ≤ 127) = True := eq_true (by omega)
    have f2 := u8n r (by omega)
    simp only [h0, h1, f1, f2, go_sem, Nat.reduceEqDiff, reduceIte, Int.reduceEq, Int.reduceLT, Int.reduceLE, Nat.reduceAdd, Nat.reduceLT, Nat.reduceLeDiff, Int.reduceToNat, Int.reduceSub, Int.reduceAdd, Int.reduceNeg]
    refine appG_nil (x := (Lib.encodeRune (r : Int))) (by rw [enc1 r c1]; rfl) rfl hne (by omega) ?_
    simp only [h0, h1, go_sem, Nat.reduceEqDiff, reduceIte, Int.reduceEq, Int.reduceLT, Int.reduceLE, Nat.reduceAdd, Nat.reduceLT, Nat.reduceLeDiff, Int.reduceToNat, Int.reduceSub, Int.reduceAdd, Int.reduceNeg]
    · refine leave_all (keep := [1]) (r' := .sl 0 0 (Lib.encodeRune (r : Int)).length (Lib.encodeRune (r : Int)).length) (L'' := [.tcells 5 1 (bytesRows (Lib.encodeRune (r : Int)))]) ?_ ?_ ?_ ?_ ?_
      · simp
      · simp
      · rfl
      case refine_5 => exact ⟨rfl, rfl⟩
      show mapO (convB _ 12 _) [.tcells 5 1 (bytesRows (Lib.encodeRune (r : Int)))] = _
      simp only [mapO, convB_bytes]
  have f1 : ((r : Int) ≤ 127) = False := eq_false (by omega)
  simp only [h0, h1, f1, go_sem, Nat.reduceEqDiff, reduceIte, Int.reduceEq, Int.reduceLT, Int.reduceLE, Nat.reduceAdd, Nat.reduceLT, Nat.reduceLeDiff, Int.reduceToNat, Int.reduceSub, Int.reduceAdd, Int.reduceNeg]
  refine xcall_own (args' := [.raw (.slice none 0 0), .int .i32 r]) rfl (nonascii_nil (E := E.noPan) hP r (by omega) hr) ?_
  rintro v L1 ⟨rfl, rfl⟩
  refine ⟨.sl 0 0 (Lib.encodeRune (r : Int)).length (Lib.encodeRune (r : Int)).length, [.tcells 5 1 (bytesRows (Lib.encodeRune (r : Int)))], rfl, ?_, ?_⟩
  · show mapO (convB _ 12 _) _ = _
    simp only [mapO, convB_bytes]
  simp only [h0, h1, go_sem, Nat.reduceEqDiff, reduceIte, Int.reduceEq, Int.reduceLT, Int.reduceLE, Nat.reduceAdd, Nat.reduceLT, Nat.reduceLeDiff, Int.reduceToNat, Int.reduceSub, Int.reduceAdd, Int.reduceNeg]
  refine leave_all (keep := [0]) (r' := .sl 0 0 (Lib.encodeRune (r : Int)).length (Lib.encodeRune (r : Int)).length) (L'' := [.tcells 5 1 (bytesRows (Lib.encodeRune (r : Int)))]) ?_ ?_ ?_ ?_ ?_
  · simp
  · simp
  · rfl
  case refine_5 => exact ⟨rfl, rfl⟩
  show mapO (convB _ 12 _) [.tcells 5 1 (bytesRows (Lib.encodeRune (r : Int)))] = _
  simp only [mapO, convB_bytes]

theorem nonascii_used (hP : E.P = Tryz.prog) (r : Nat) (h128 : 128 ≤ r) (hr : r < 2147483648) (bs : List UInt8) (hbs : bs.length + (Lib.encodeRune (r : Int)).length ≤ 70368744177664) : XT E 132 [.sl 0 0 bs.length bs.length, .int .i32 r] [.tcells 5 1 (bytesRows bs)] fun v L1 => v = .sl 1 0 (bs.length + (Lib.encodeRune (r : Int)).length) (bs.length + (Lib.encodeRune (r : Int)).length) ∧ L1 = [.dead, .tcells 5 1 (bytesRows (bs ++ (Lib.encodeRune (r : Int))))] := by
  have hne := enc_ne (r : Int)
  have hel := enc_len (r : Int)
  refine xt_of_fun (F := ⟨Tryz.f132.ntmps, [.tmp 4], y129⟩) (by rw [hP]; rfl) (by rw [hP]; kernel_rfl) (by decide) (Nat.le_of_ble_eq_true rfl) (xfun1 ?_)
  generalize hρ : entry _ = ρ
  have h0 : ρ 0 = .sl 0 0 bs.length bs.length := by rw [← hρ]; rfl
  have h1 : ρ 1 = .int .i32 r := by rw [← hρ]; rfl
  clear hρ
  unfold y129
  have hu : IntKind.u32.wrap (r : Int) = (r : Int) := by simp [IntKind.wrap, IntKind.bits, IntKind.signed]; omega
  simp only [h0, h1, hu, go_sem, Nat.reduceEqDiff, reduceIte, Int.reduceEq, Int.reduceLT, Int.reduceLE, Nat.reduceAdd, Nat.reduceLT, Nat.reduceLeDiff, Int.reduceToNat, Int.reduceSub, Int.reduceAdd, Int.reduceNeg]
  by_cases c1 : r ≤ 2047
  · have f1 : ((r : Int) ≤ 2047) = True := eq_true (by omega)
    simp only [h0, h1, f1, go_sem, Nat.reduceEqDiff, reduceIte, Int.reduceEq, Int.reduceLT, Int.reduceLE, Nat.reduceAdd, Nat.reduceLT, Nat.reduceLeDiff, Int.reduceToNat, Int.reduceSub, Int.reduceAdd, Int.reduceNeg]
    refine appG_used (x := (Lib.encodeRune (r : Int))) rfl rfl (c2 (enc2 r h128 c1) ((congrArg (fun z : Int => IntKind.u8.wrap (BitVec.ofInt 8 192 ||| BitVec.ofInt 8 (IntKind.u8.wrap z)).toNat) (shrN r 6 _ rfl)).trans (b_head 6 5 (r / 64) (by omega) (by omega) (by omega))) (b_tail r)) rfl hne hbs ?_
    simp only [h0, h1, go_sem, Nat.reduceEqDiff, reduceIte, Int.reduceEq, Int.reduceLT, Int.reduceLE, Nat.reduceAdd, Nat.reduceLT, Nat.reduceLeDiff, Int.reduceToNat, Int.reduceSub, Int.reduceAdd, Int.reduceNeg]
    · refine leave_all (keep := [2]) (r' := .sl 1 0 (bs.length + (Lib.encodeRune (r : Int)).length) (bs.length + (Lib.encodeRune (r : Int)).length)) (L'' := [.dead, .tcells 5 1 (bytesRows (bs ++ (Lib.encodeRune (r : Int))))]) ?_ ?_ ?_ ?_ ?_
      · simp
      · simp
      · rfl
      case refine_5 => exact ⟨rfl, rfl⟩
      show mapO (convB _ 12 _) [.dead, .tcells 5 1 (bytesRows (bs ++ (Lib.encodeRune (r : Int))))] = _
      simp only [mapO, convB_bytes]
      rfl
  have f1 : ((r : Int) ≤ 2047) = False := eq_false (by omega)
  by_cases d2 : (2048 ≤ r ∧ r < 55296) ∨ (57343 < r ∧ r ≤ 65535)
  · have key : True := trivial
    by_cases d3 : r < 55296
    · have f2 : ((r : Int) < 55296) = True := eq_true (by omega)
      simp only [h0, h1, f1, f2, go_sem, Nat.reduceEqDiff, reduceIte, Int.reduceEq, Int.reduceLT, Int.reduceLE, Nat.reduceAdd, Nat.reduceLT, Nat.reduceLeDiff, Int.reduceToNat, Int.reduceSub, Int.reduceAdd, Int.reduceNeg]
      refine appG_used (x := (Lib.encodeRune (r : Int))) rfl rfl (c3 (enc3 r d2) ((congrArg (fun z : Int => IntKind.u8.wrap (BitVec.ofInt 8 224 ||| BitVec.ofInt 8 (IntKind.u8.wrap z)).toNat) (shrN r 12 _ rfl)).trans (b_head 14 4 (r / 4096) (by omega) (by omega) (by omega))) ((congrArg (fun z : Int => IntKind.u8.wrap (BitVec.ofInt 8 128 ||| BitVec.ofInt 8 (IntKind.u8.wrap (BitVec.ofInt 8 (IntKind.u8.wrap z) &&& BitVec.ofInt 8 63).toNat)).toNat) (shrN r 6 _ rfl)).trans (b_tail (r / 64))) (b_tail r)) rfl hne hbs ?_
      simp only [h0, h1, go_sem, Nat.reduceEqDiff, reduceIte, Int.reduceEq, Int.reduceLT, Int.reduceLE, Nat.reduceAdd, Nat.reduceLT, Nat.reduceLeDiff, Int.reduceToNat, Int.reduceSub, Int.reduceAdd, Int.reduceNeg]
      refine leave_all (keep := [2]) (r' := .sl 1 0 (bs.length + (Lib.encodeRune (r : Int)).length) (bs.length + (Lib.encodeRune (r : Int)).length)) (L'' := [.dead, .tcells 5 1 (bytesRows (bs ++ (Lib.encodeRune (r : Int))))]) ?_ ?_ ?_ ?_ ?_
      · simp
      · simp
      · rfl
      case refine_5 => exact ⟨rfl, rfl⟩
      show mapO (convB _ 12 _) [.dead, .tcells 5 1 (bytesRows (bs ++ (Lib.encodeRune (r : Int))))] = _
      simp only [mapO, convB_bytes]
      rfl
    · have f2 : ((r : Int) < 55296) = False := eq_false (by omega)
      have f3 : ((57343 : Int) < (r : Int)) = True := eq_true (by omega)
      have f4 : ((r : Int) ≤ 65535) = True := eq_true (by omega)
      simp only [h0, h1, f1, f2, f3, f4, go_sem, Nat.reduceEqDiff, reduceIte, Int.reduceEq, Int.reduceLT, Int.reduceLE, Nat.reduceAdd, Nat.reduceLT, Nat.reduceLeDiff, Int.reduceToNat, Int.reduceSub, Int.reduceAdd, Int.reduceNeg]
      refine appG_used (x := (Lib.encodeRune (r : Int))) rfl rfl (c3 (enc3 r d2) ((congrArg (fun z : Int => IntKind.u8.wrap (BitVec.ofInt 8 224 ||| BitVec.ofInt 8 (IntKind.u8.wrap z)).toNat) (shrN r 12 _ rfl)).trans (b_head 14 4 (r / 4096) (by omega) (by omega) (by omega))) ((congrArg (fun z : Int => IntKind.u8.wrap (BitVec.ofInt 8 128 ||| BitVec.ofInt 8 (IntKind.u8.wrap (BitVec.ofInt 8 (IntKind.u8.wrap z) &&& BitVec.ofInt 8 63).toNat)).toNat) (shrN r 6 _ rfl)).trans (b_tail (r / 64))) (b_tail r)) rfl hne hbs ?_
      simp only [h0, h1, go_sem, Nat.reduceEqDiff, reduceIte, Int.reduceEq, Int.reduceLT, Int.reduceLE, Nat.reduceAdd, Nat.reduceLT, Nat.reduceLeDiff, Int.reduceToNat, Int.reduceSub, Int.reduceAdd, Int.reduceNeg]
      refine leave_all (keep := [2]) (r' := .sl 1 0 (bs.length + (Lib.encodeRune (r : Int)).length) (bs.length + (Lib.encodeRune (r : Int)).length)) (L'' := [.dead, .tcells 5 1 (bytesRows (bs ++ (Lib.encodeRune (r : Int))))]) ?_ ?_ ?_ ?_ ?_
      · simp
      · simp
      · rfl
      case refine_5 => exact ⟨rfl, rfl⟩
      show mapO (convB _ 12 _) [.dead, .tcells 5 1 (bytesRows (bs ++ (Lib.encodeRune (r : Int))))] = _
      simp only [mapO, convB_bytes]
      rfl
  have f2 : ((r : Int) < 55296) = False := eq_false (by omega)
  by_cases d4 : 65536 ≤ r ∧ r ≤ 1114111
  · obtain ⟨c41, c42⟩ := d4
    have f3 : ((57343 : Int) < (r : Int)) = True := eq_true (by omega)
    have f4 : ((r : Int) ≤ 65535) = False := eq_false (by omega)
    have f5 : ((65535 : Int) < (r : Int)) = True := eq_true (by omega)
    have f6 : ((r : Int) ≤ 1114111) = True := eq_true (by omega)
    simp only [h0, h1, f1, f2, f3, f4, f5, f6, go_sem, Nat.reduceEqDiff, reduceIte, Int.reduceEq, Int.reduceLT, Int.reduceLE, Nat.reduceAdd, Nat.reduceLT, Nat.reduceLeDiff, Int.reduceToNat, Int.reduceSub, Int.reduceAdd, Int.reduceNeg]
    refine appG_used (x := (Lib.encodeRune (r : Int))) rfl rfl (c4 (enc4 r c41 c42) ((congrArg (fun z : Int => IntKind.u8.wrap (BitVec.ofInt 8 240 ||| BitVec.ofInt 8 (IntKind.u8.wrap z)).toNat) (shrN r 18 _ rfl)).trans (b_head 30 3 (r / 262144) (by omega) (by omega) (by omega))) ((congrArg (fun z : Int => IntKind.u8.wrap (BitVec.ofInt 8 128 ||| BitVec.ofInt 8 (IntKind.u8.wrap (BitVec.ofInt 8 (IntKind.u8.wrap z) &&& BitVec.ofInt 8 63).toNat)).toNat) (shrN r 12 _ rfl)).trans (b_tail (r / 4096))) ((congrArg (fun z : Int => IntKind.u8.wrap (BitVec.ofInt 8 128 ||| BitVec.ofInt 8 (IntKind.u8.wrap (BitVec.ofInt 8 (IntKind.u8.wrap z) &&& BitVec.ofInt 8 63).toNat)).toNat) (shrN r 6 _ rfl)).trans (b_tail (r / 64))) (b_tail r)) rfl hne hbs ?_
    simp only [h0, h1, go_sem, Nat.reduceEqDiff, reduceIte, Int.reduceEq, Int.reduceLT, Int.reduceLE, Nat.reduceAdd, Nat.reduceLT, Nat.reduceLeDiff, Int.reduceToNat, Int.reduceSub, Int.reduceAdd, Int.reduceNeg]
    · refine leave_all (keep := [2]) (r' := .sl 1 0 (bs.length + (Lib.encodeRune (r : Int)).length) (bs.length + (Lib.encodeRune (r : Int)).length)) (L'' := [.dead, .tcells 5 1 (bytesRows (bs ++ (Lib.encodeRune (r : Int))))]) ?_ ?_ ?_ ?_ ?_
      · simp
      · simp
      · rfl
      case refine_5 => exact ⟨rfl, rfl⟩
      show mapO (convB _ 12 _) [.dead, .tcells 5 1 (bytesRows (bs ++ (Lib.encodeRune (r : Int))))] = _
      simp only [mapO, convB_bytes]
      rfl
  have hb := encBad r (by omega)
  by_cases c5 : 57343 < r
  · have f3 : ((57343 : Int) < (r : Int)) = True := eq_true (by omega)
    have f4 : ((r : Int) ≤ 65535) = False := eq_false (by omega)
    have f5 : ((65535 : Int) < (r : Int)) = True := eq_true (by omega)
    have f6 : ((r : Int) ≤ 1114111) = False := eq_false (by omega)
    simp only [h0, h1, f1, f2, f3, f4, f5, f6, go_sem, Nat.reduceEqDiff, reduceIte, Int.reduceEq, Int.reduceLT, Int.reduceLE, Nat.reduceAdd, Nat.reduceLT, Nat.reduceLeDiff, Int.reduceToNat, Int.reduceSub, Int.reduceAdd, Int.reduceNeg]
    refine appG_used (x := (Lib.encodeRune (r : Int))) rfl rfl (by rw [hb]; rfl) rfl hne hbs ?_
    simp only [h0, h1, go_sem, Nat.reduceEqDiff, reduceIte, Int.reduceEq, Int.reduceLT, Int.reduceLE, Nat.reduceAdd, Nat.reduceLT, Nat.reduceLeDiff, Int.reduceToNat, Int.reduceSub, Int.reduceAdd, Int.reduceNeg]
    · refine leave_all (keep := [2]) (r' := .sl 1 0 (bs.length + (Lib.encodeRune (r : Int)).length) (bs.length + (Lib.encodeRune (r : Int)).length)) (L'' := [.dead, .tcells 5 1 (bytesRows (bs ++ (Lib.encodeRune (r : Int))))]) ?_ ?_ ?_ ?_ ?_
      · simp
      · simp
      · rfl
      case refine_5 => exact ⟨rfl, rfl⟩
      show mapO (convB _ 12 _) [.dead, .tcells 5 1 (bytesRows (bs ++ (Lib.encodeRune (r : Int))))] = _
      simp only [mapO, convB_bytes]
      rfl
  · have f3 : ((57343 : Int) < (r : Int)) = False := eq_false (by omega)
    have f5 : ((65535 : Int) < (r : Int)) = False := eq_false (by omega)
    simp only [h0, h1, f1, f2, f3, f5, go_sem, Nat.reduceEqDiff, reduceIte, Int.reduceEq, Int.reduceLT, Int.reduceLE, Nat.reduceAdd, Nat.reduceLT, Nat.reduceLeDiff, Int.reduceToNat, Int.reduceSub, Int.reduceAdd, Int.reduceNeg]
    refine appG_used (x := (Lib.encodeRune (r : Int))) rfl rfl (by rw [hb]; rfl) rfl hne hbs ?_
    simp only [h0, h1, go_sem, Nat.reduceEqDiff, reduceIte, Int.reduceEq, Int.reduceLT, Int.reduceLE, Nat.reduceAdd, Nat.reduceLT, Nat.reduceLeDiff, Int.reduceToNat, Int.reduceSub, Int.reduceAdd, Int.reduceNeg]
    · refine leave_all (keep := [2]) (r' := .sl 1 0 (bs.length + (Lib.encodeRune (r : Int)).length) (bs.length + (Lib.encodeRune (r : Int)).length)) (L'' := [.dead, .tcells 5 1 (bytesRows (bs ++ (Lib.encodeRune (r : Int))))]) ?_ ?_ ?_ ?_ ?_
      · simp
      · simp
      · rfl
      case refine_5 => exact ⟨rfl, rfl⟩
      show mapO (convB _ 12 _) [.dead, .tcells 5 1 (bytesRows (bs ++ (Lib.encodeRune (r : Int))))] = _
      simp only [mapO, convB_bytes]
      rfl
theorem append_used (hP : E.P = Tryz.prog) (r : Nat) (hr : r < 2147483648) (bs : List UInt8) (hbs : bs.length + (Lib.encodeRune (r : Int)).length ≤ 70368744177664) : XT E 129 [.sl 0 0 bs.length bs.length, .int .i32 r] [.tcells 5 1 (bytesRows bs)] fun v L1 => v = .sl 1 0 (bs.length + (Lib.encodeRune (r : Int)).length) (bs.length + (Lib.encodeRune (r : Int)).length) ∧ L1 = [.dead, .tcells 5 1 (bytesRows (bs ++ (Lib.encodeRune (r : Int))))] := by
  have hne := enc_ne (r : Int)
  have hel := enc_len (r : Int)
  refine xt_of_fun (F := ⟨Tryz.f129.ntmps, [.tmp 4], y125⟩) (by rw [hP]; rfl) (by rw [hP]; kernel_rfl) (by decide) (Nat.le_of_ble_eq_true rfl) (xfun1 ?_)
  generalize hρ : entry _ = ρ
  have h0 : ρ 0 = .sl 0 0 bs.length bs.length := by rw [← hρ]; rfl
  have h1 : ρ 1 = .int .i32 r := by rw [← hρ]; rfl
  clear hρ
  unfold y125
  have hu : IntKind.u32.wrap (r : Int) = (r : Int) := by simp [IntKind.wrap, IntKind.bits, IntKind.signed]; omega
  simp only [h0, h1, hu, go_sem, Nat.reduceEqDiff, reduceIte, Int.reduceEq, Int.reduceLT, Int.reduceLE, Nat.reduceAdd, Nat.reduceLT, Nat.reduceLeDiff, Int.reduceToNat, Int.reduceSub, Int.reduceAdd, Int.reduceNeg]
  by_cases c1 : r ≤ 127
  · have f1 : ((r : Int) ≤ 127) = True := eq_true (by omega)
    have f2 := u8n r (by omega)
    simp only [h0, h1, f1, f2, go_sem, Nat.reduceEqDiff, reduceIte, Int.reduceEq, Int.reduceLT, Int.reduceLE, Nat.reduceAdd, Nat.reduceLT, Nat.reduceLeDiff, Int.reduceToNat, Int.reduceSub, Int.reduceAdd, Int.reduceNeg]
    refine appG_used (x := (Lib.encodeRune (r : Int))) rfl rfl (by rw [enc1 r c1]; rfl) rfl hne hbs ?_
    simp only [h0, h1, go_sem, Nat.reduceEqDiff, reduceIte, Int.reduceEq, Int.reduceLT, Int.reduceLE, Nat.reduceAdd, Nat.reduceLT, Nat.reduceLeDiff, Int.reduceToNat, Int.reduceSub, Int.reduceAdd, Int.reduceNeg]
    · refine leave_all (keep := [2]) (r' := .sl 1 0 (bs.length + (Lib.encodeRune (r : Int)).length) (bs.length + (Lib.encodeRune (r : Int)).length)) (L'' := [.dead, .tcells 5 1 (bytesRows (bs ++ (Lib.encodeRune (r : Int))))]) ?_ ?_ ?_ ?_ ?_
      · simp
      · simp
      · rfl
      case refine_5 => exact ⟨rfl, rfl⟩
      show mapO (convB _ 12 _) [.dead, .tcells 5 1 (bytesRows (bs ++ (Lib.encodeRune (r : Int))))] = _
      simp only [mapO, convB_bytes]
      rfl
  have f1 : ((r : Int) ≤ 127) = False := eq_false (by omega)
  simp only [h0, h1, f1, go_sem, Nat.reduceEqDiff, reduceIte, Int.reduceEq, Int.reduceLT, Int.reduceLE, Nat.reduceAdd, Nat.reduceLT, Nat.reduceLeDiff, Int.reduceToNat, Int.reduceSub, Int.reduceAdd, Int.reduceNeg]
  refine xcall_sel [0] (by simp) (al1 rfl) (args' := [.sl 0 0 bs.length bs.length, .int .i32 r]) rfl (L0 := [.tcells 5 1 (bytesRows bs)]) ?_ (nonascii_used (E := E.noPan) hP r (by omega) hr bs hbs) ?_
  · show mapO (convB _ 12 _) [.tcells 5 1 (bytesRows bs)] = _
    simp only [mapO, convB_bytes]
  rintro v L1 ⟨rfl, rfl⟩
  refine ⟨.sl 1 0 (bs.length + (Lib.encodeRune (r : Int)).length) (bs.length + (Lib.encodeRune (r : Int)).length), [.dead, .tcells 5 1 (bytesRows (bs ++ (Lib.encodeRune (r : Int))))], rfl, ?_, ?_⟩
  · show mapO (convB _ 12 _) _ = _
    simp only [mapO, convB_bytes]
    rfl
  show xops _ _ _ [.dead, .tcells 5 1 (bytesRows (bs ++ (Lib.encodeRune (r : Int))))] _
  simp only [h0, h1, go_sem, Nat.reduceEqDiff, reduceIte, Int.reduceEq, Int.reduceLT, Int.reduceLE, Nat.reduceAdd, Nat.reduceLT, Nat.reduceLeDiff, Int.reduceToNat, Int.reduceSub, Int.reduceAdd, Int.reduceNeg]
  refine leave_all (keep := [1]) (r' := .sl 1 0 (bs.length + (Lib.encodeRune (r : Int)).length) (bs.length + (Lib.encodeRune (r : Int)).length)) (L'' := [.dead, .tcells 5 1 (bytesRows (bs ++ (Lib.encodeRune (r : Int))))]) ?_ ?_ ?_ ?_ ?_
  · simp
  · simp
  · rfl
  case refine_5 => exact ⟨rfl, rfl⟩
  show mapO (convB _ 12 _) [.dead, .tcells 5 1 (bytesRows (bs ++ (Lib.encodeRune (r : Int))))] = _
  simp only [mapO, convB_bytes]
  rfl
end
end Go.X.TryzW
end
section
open Go Go.X Go.Proofs
set_option maxRecDepth 100000
set_option maxHeartbeats 4000000
set_option linter.unusedSimpArgs false
set_option linter.unusedVariables false
namespace Go.X.TryzW
section
variable {E : Env} {L : List Blk} {K : IV → List Blk → Prop}
theorem writeRune_ok (hP : E.P = Tryz.prog) (r : Nat) (hr : r < 2147483648) : WrOk E 121 [.int .i32 r] (Lib.encodeRune (r : Int)) (.tup [.int .i64 (Lib.encodeRune (r : Int)).length, .raw .nilIface]) := by
  have hne := enc_ne (r : Int)
  have hel := enc_len (r : Int)
  refine ⟨?_, fun bs hbs => ?_⟩
  · unfold freshB
    refine xt_of_fun (F := ⟨Tryz.f121.ntmps, [.tmp 4, .tmp 5], y116⟩) (by rw [hP]; rfl) (by rw [hP]; kernel_rfl) (by decide) (Nat.le_of_ble_eq_true rfl) (xfun2 ?_)
    generalize hρ : entry _ = ρ
    have h0 : ρ 0 = .ptr 0 0 0 := by rw [← hρ]; rfl
    have h1 : ρ 1 = .int .i32 r := by rw [← hρ]; rfl
    clear hρ
    unfold y116
    simp only [h0, h1, go_sem, Nat.reduceEqDiff, reduceIte, Int.reduceEq, Int.reduceLT, Int.reduceLE, Nat.reduceAdd, Nat.reduceLT, Nat.reduceLeDiff, Int.reduceToNat, Int.reduceSub, Int.reduceAdd, Int.reduceNeg]
    refine fresh_copy (E := E.noPan) hP ?_
    simp only [h0, h1, go_sem, Nat.reduceEqDiff, reduceIte, Int.reduceEq, Int.reduceLT, Int.reduceLE, Nat.reduceAdd, Nat.reduceLT, Nat.reduceLeDiff, Int.reduceToNat, Int.reduceSub, Int.reduceAdd, Int.reduceNeg]
    refine xcall_own (args' := [.raw (.slice none 0 0), .int .i32 r]) rfl (append_nil (E := E.noPan) hP r hr) ?_
    rintro v L1 ⟨rfl, rfl⟩
    refine ⟨.sl 1 0 (Lib.encodeRune (r : Int)).length (Lib.encodeRune (r : Int)).length, [.tcells 5 1 (bytesRows (Lib.encodeRune (r : Int)))], rfl, ?_, ?_⟩
    · show mapO (convB _ 12 _) _ = _
      simp only [mapO, convB_bytes]
    show xops _ _ _ [.tcells 47 2 [[.ptr 0 0 0, .raw (.slice none 0 0)]], .tcells 5 1 (bytesRows (Lib.encodeRune (r : Int)))] _
    have hw : IntKind.i64.wrap (((Lib.encodeRune (r : Int)).length : Int) - 0) = ((Lib.encodeRune (r : Int)).length : Int) := by rw [Int.sub_zero, wrap64 (by omega) (by omega)]
    simp only [h0, h1, hw, go_sem, Nat.reduceEqDiff, reduceIte, Int.reduceEq, Int.reduceLT, Int.reduceLE, Nat.reduceAdd, Nat.reduceLT, Nat.reduceLeDiff, Int.reduceToNat, Int.reduceSub, Int.reduceAdd, Int.reduceNeg]
    refine leave_all (keep := [1]) (r' := .tup [.int .i64 (Lib.encodeRune (r : Int)).length, .raw .nilIface]) (L'' := [.tcells 47 2 [usedB 0 1 (Lib.encodeRune (r : Int)).length], .tcells 5 1 (bytesRows (Lib.encodeRune (r : Int)))]) ?_ ?_ ?_ ?_ ?_
    · simp
    · simp
    · rfl
    case refine_5 => exact ⟨rfl, rfl⟩
    show mapO (convB _ 12 _) [.tcells 47 2 [usedB 0 1 (Lib.encodeRune (r : Int)).length], .tcells 5 1 (bytesRows (Lib.encodeRune (r : Int)))] = _
    simp only [mapO, convB_bytes, convB_used (s := 0) (k := 1) (s' := 0) (k' := 1) _ (m := renLeave 1 [1]) rfl rfl]
  · unfold usedB
    refine xt_of_fun (F := ⟨Tryz.f121.ntmps, [.tmp 4, .tmp 5], y116⟩) (by rw [hP]; rfl) (by rw [hP]; kernel_rfl) (by decide) (Nat.le_of_ble_eq_true rfl) (xfun2 ?_)
    generalize hρ : entry _ = ρ
    have h0 : ρ 0 = .ptr 0 0 0 := by rw [← hρ]; rfl
    have h1 : ρ 1 = .int .i32 r := by rw [← hρ]; rfl
    clear hρ
    unfold y116
    simp only [h0, h1, go_sem, Nat.reduceEqDiff, reduceIte, Int.reduceEq, Int.reduceLT, Int.reduceLE, Nat.reduceAdd, Nat.reduceLT, Nat.reduceLeDiff, Int.reduceToNat, Int.reduceSub, Int.reduceAdd, Int.reduceNeg]
    refine used_copy (E := E.noPan) hP (Q := fun _ _ => True) ?_
    simp only [h0, h1, go_sem, Nat.reduceEqDiff, reduceIte, Int.reduceEq, Int.reduceLT, Int.reduceLE, Nat.reduceAdd, Nat.reduceLT, Nat.reduceLeDiff, Int.reduceToNat, Int.reduceSub, Int.reduceAdd, Int.reduceNeg]
    refine xcall_sel [1] (by simp) (fun t ht => by rw [List.mem_singleton] at ht; subst ht; exact ⟨_, rfl, rfl⟩) (args' := [.sl 0 0 bs.length bs.length, .int .i32 r]) rfl (L0 := [.tcells 5 1 (bytesRows bs)]) ?_ (append_used (E := E.noPan) hP r hr bs hbs) ?_
    · show mapO (convB _ 12 _) [.tcells 5 1 (bytesRows bs)] = _
      simp only [mapO, convB_bytes]
    rintro v L1 ⟨rfl, rfl⟩
    refine ⟨.sl 2 0 (bs.length + (Lib.encodeRune (r : Int)).length) (bs.length + (Lib.encodeRune (r : Int)).length), [.dead, .tcells 5 1 (bytesRows (bs ++ (Lib.encodeRune (r : Int))))], rfl, ?_, ?_⟩
    · show mapO (convB _ 12 _) _ = _
      simp only [mapO, convB_bytes]
      rfl
    show xops _ _ _ [.tcells 47 2 [[.ptr 0 0 0, .sl 1 0 bs.length bs.length]], .dead, .tcells 5 1 (bytesRows (bs ++ (Lib.encodeRune (r : Int))))] _
    have hw : IntKind.i64.wrap (((bs.length + (Lib.encodeRune (r : Int)).length : Nat) : Int) - (bs.length : Int)) = ((Lib.encodeRune (r : Int)).length : Int) := by
      rw [wrap64 (by omega) (by omega)]; omega
    simp only [h0, h1, hw, go_sem, Nat.reduceEqDiff, reduceIte, Int.reduceEq, Int.reduceLT, Int.reduceLE, Nat.reduceAdd, Nat.reduceLT, Nat.reduceLeDiff, Int.reduceToNat, Int.reduceSub, Int.reduceAdd, Int.reduceNeg]
    refine leave_all (keep := [2]) (r' := .tup [.int .i64 (Lib.encodeRune (r : Int)).length, .raw .nilIface]) (L'' := [.tcells 47 2 [usedB 0 2 (bs.length + (Lib.encodeRune (r : Int)).length)], .dead, .tcells 5 1 (bytesRows (bs ++ (Lib.encodeRune (r : Int))))]) ?_ ?_ ?_ ?_ ?_
    · simp
    · simp
    · rfl
    case refine_5 => exact ⟨rfl, rfl⟩
    show mapO (convB _ 12 _) [.tcells 47 2 [usedB 0 2 (bs.length + (Lib.encodeRune (r : Int)).length)], .dead, .tcells 5 1 (bytesRows (bs ++ (Lib.encodeRune (r : Int))))] = _
    simp only [mapO, convB_bytes, convB_used (s := 0) (k := 2) (s' := 0) (k' := 2) _ (m := renLeave 2 [2]) rfl rfl]
    rfl

theorem string_used (hP : E.P = Tryz.prog) (bs : List UInt8) (h0 : bs ≠ []) (hb : bs.length ≤ 9223372036854775807) : XT E 24 [.ptr 0 0 0] [.tcells 47 2 [usedB 0 1 bs.length], .tcells 5 1 (bytesRows bs)]
    fun r L1 => r = .str bs ∧ L1 = [.tcells 47 2 [usedB 0 1 bs.length], .dead] := by
  unfold usedB
  have hne : bs.length ≠ 0 := by simpa using h0
  refine xt_of_fun (F := ⟨Tryz.f24.ntmps, [.tmp 2], y52⟩) (by rw [hP]; rfl) (by rw [hP]; kernel_rfl) (by decide) (Nat.le_of_ble_eq_true rfl) (xfun1 ?_)
  generalize hρ : entry _ = ρ
  have h0 : ρ 0 = .ptr 0 0 0 := by rw [← hρ]; rfl
  clear hρ
  unfold y52
  simp only [h0, go_sem, Nat.reduceEqDiff, reduceIte, Int.reduceEq, Int.reduceLT, Int.reduceLE, Nat.reduceAdd, Nat.reduceLT, Nat.reduceLeDiff, Int.reduceToNat, Int.reduceSub, Int.reduceAdd, Int.reduceNeg]
  refine ⟨by omega, ?_⟩
  rw [← bytesRows_len bs]
  refine xusU_at (rows := bytesRows bs) ?_ (bytesRows_of bs) ?_ ?_ ?_
  · rfl
  · rw [bytesRows_len]; exact hne
  · rw [bytesRows_len]; exact hb
  rw [bytesRows_len]
  simp only [h0, go_sem, Nat.reduceEqDiff, reduceIte, Int.reduceEq, Int.reduceLT, Int.reduceLE, Nat.reduceAdd, Nat.reduceLT, Nat.reduceLeDiff, Int.reduceToNat, Int.reduceSub, Int.reduceAdd, Int.reduceNeg]
  refine leave_all (keep := []) (r' := .str bs) (L'' := [.tcells 47 2 [usedB 0 1 bs.length], .dead]) .nil ?_ ?_ ?_ ?_
  · simp
  · rfl
  case refine_4 => exact ⟨rfl, rfl⟩
  show mapO (convB _ 12 _) [.tcells 47 2 [usedB 0 1 bs.length], .dead] = _
  simp only [mapO, convB_bytes, convB_used (s := 0) (k := 1) (s' := 0) (k' := 1) _ (m := renLeave 2 []) rfl rfl]
  rfl
theorem string_fresh (hP : E.P = Tryz.prog) : XT E 24 [.ptr 0 0 0] [.tcells 47 2 [freshB]] fun r L1 => r = .str [] ∧ L1 = [.tcells 47 2 [freshB]] := by
  unfold freshB
  refine xt_of_fun (F := ⟨Tryz.f24.ntmps, [.tmp 2], y52⟩) (by rw [hP]; rfl) (by rw [hP]; kernel_rfl) (by decide) (Nat.le_of_ble_eq_true rfl) (xfun1 ?_)
  generalize hρ : entry _ = ρ
  have h0 : ρ 0 = .ptr 0 0 0 := by rw [← hρ]; rfl
  clear hρ
  unfold y52
  simp only [h0, go_sem, Nat.reduceEqDiff, reduceIte, Int.reduceEq, Int.reduceLT, Int.reduceLE, Nat.reduceAdd, Nat.reduceLT, Nat.reduceLeDiff, Int.reduceToNat, Int.reduceSub, Int.reduceAdd, Int.reduceNeg]
  exact leave_all .nil (by simp) rfl rfl ⟨rfl, rfl⟩

/-! ### A builder of ours -/
def Bld (L : List Blk) (s : Nat) (bs : List UInt8) : Prop :=
  (bs = [] ∧ L[s]? = some (.tcells 47 2 [freshB])) ∨ ∃ k, L[s]? = some (.tcells 47 2 [usedB s k bs.length]) ∧ L[k]? = some (.tcells 5 1 (bytesRows bs)) ∧ bs ≠ []
/-- Plain cells stay. -/
def Kept (L L' : List Blk) : Prop := ∀ (i sz : Nat) (rows : List (List IV)), L[i]? = some (Blk.cells sz rows) → L'[i]? = some (Blk.cells sz rows)
theorem Kept.refl (L : List Blk) : Kept L L := fun _ _ _ h => h
theorem Kept.trans {A B C : List Blk} (h : Kept A B) (k : Kept B C) : Kept A C := fun i sz rows hi => k i sz rows (h i sz rows hi)
theorem wr_call {f : FuncId} {av : List IV} {x bs : List UInt8} {res : IV} {s : Nat} (h : WrOk E f av x res) (hp : av.all (plainD fuel) = true) (hr : plainD fuel res = true) (hB : Bld L s bs) (hx : x ≠ []) (hb : bs.length + x.length ≤ 70368744177664)
    (hk : ∀ L', Bld L' s (bs ++ x) → Kept L L' → K res L') : xcall E f (.ptr s 0 0 :: av) L K := by
  have hav : ∀ m : Ren, mapO (conv L fuel m) av = some av := fun m => mapO_same fun x hxm => plainD_conv (by rw [List.all_eq_true] at hp; exact hp x hxm)
  rcases hB with ⟨rfl, hs⟩ | ⟨k, hs, hk', hbs⟩
  · have hg : L.getD s .dead = .tcells 47 2 [freshB] := by rw [List.getD_eq_getElem?_getD, hs]; rfl
    have hrn : renSel [s] [] false s = some (some 0) := by simp [renSel, pos]
    have hsl := lt_of_get hs
    refine xcall_sel [s] (by simp) (fun t ht => ?_) (args' := .ptr 0 0 0 :: av) ?_ (L0 := [.tcells 47 2 [freshB]]) ?_ h.1 ?_
    · rw [List.mem_singleton] at ht; subst ht; exact ⟨_, hs, rfl⟩
    · have := hav (renSel [s] [] false)
      have h2 : conv L fuel (renSel [s] [] false) (.ptr s 0 0) = some (.ptr 0 0 0) := by
        show conv L 12 _ _ = _
        simp only [conv, hrn]
      simp only [mapO, h2, this]
    · rw [List.map_cons, List.map_nil, hg]; rfl
    rintro r L1 ⟨rfl, rfl⟩
    refine ⟨_, [.tcells 47 2 [usedB s L.length x.length], .tcells 5 1 (bytesRows x)], plainD_conv hr, ?_, ?_⟩
    · show mapO (convB _ 12 _) [.tcells 47 2 [usedB 0 1 x.length], .tcells 5 1 (bytesRows x)] = _
      simp only [mapO, convB_bytes, convB_used (s := 0) (k := 1) (s' := s) (k' := L.length) _ (m := renBack [s] L.length) rfl (by simp [renBack])]
    · show K _ (L.set s (.tcells 47 2 [usedB s L.length x.length]) ++ [.tcells 5 1 (bytesRows x)])
      refine hk _ (.inr ⟨L.length, ?_, ?_, by simpa using hx⟩) fun i sz rows hi => ?_
      · rw [List.getElem?_append_left (by rw [List.length_set]; exact hsl), List.getElem?_set_self hsl, List.nil_append]
      · rw [List.getElem?_append_right (by rw [List.length_set]; exact Nat.le_refl _), List.length_set, Nat.sub_self]; rfl
      · have hne : s ≠ i := fun h0 => by subst h0; rw [hs] at hi; simp at hi
        rw [List.getElem?_append_left (by rw [List.length_set]; exact lt_of_get hi), List.getElem?_set_ne hne]; exact hi
  · have hne : s ≠ k := fun h0 => by subst h0; rw [hs] at hk'; simp at hk'
    have hgs : L.getD s .dead = .tcells 47 2 [usedB s k bs.length] := by rw [List.getD_eq_getElem?_getD, hs]; rfl
    have hgk : L.getD k .dead = .tcells 5 1 (bytesRows bs) := by rw [List.getD_eq_getElem?_getD, hk']; rfl
    have hrn : renSel [s, k] [] false s = some (some 0) := by simp [renSel, pos]
    have hrn' : renSel [s, k] [] false k = some (some 1) := by simp [renSel, pos, Ne.symm hne]
    have hsl := lt_of_get hs
    have hkl := lt_of_get hk'
    refine xcall_sel [s, k] (by simp [hne]) (fun t ht => ?_) (args' := .ptr 0 0 0 :: av) ?_ (L0 := [.tcells 47 2 [usedB 0 1 bs.length], .tcells 5 1 (bytesRows bs)]) ?_ (h.2 bs hb) ?_
    · simp only [List.mem_cons, List.not_mem_nil, or_false] at ht
      rcases ht with rfl | rfl
      · exact ⟨_, hs, rfl⟩
      · exact ⟨_, hk', rfl⟩
    · have := hav (renSel [s, k] [] false)
      have h2 : conv L fuel (renSel [s, k] [] false) (.ptr s 0 0) = some (.ptr 0 0 0) := by
        show conv L 12 _ _ = _
        simp only [conv, hrn]
      simp only [mapO, h2, this]
    · rw [List.map_cons, List.map_cons, List.map_nil, hgs, hgk]
      show mapO (convB _ 12 _) [.tcells 47 2 [usedB s k bs.length], .tcells 5 1 (bytesRows bs)] = _
      simp only [mapO, convB_bytes, convB_used (s := s) (k := k) (s' := 0) (k' := 1) _ hrn hrn']
    rintro r L1 ⟨rfl, rfl⟩
    refine ⟨_, [.tcells 47 2 [usedB s L.length (bs.length + x.length)], .dead, .tcells 5 1 (bytesRows (bs ++ x))], plainD_conv hr, ?_, ?_⟩
    · show mapO (convB _ 12 _) [.tcells 47 2 [usedB 0 2 (bs.length + x.length)], .dead, .tcells 5 1 (bytesRows (bs ++ x))] = _
      simp only [mapO, convB_bytes, convB_used (s := 0) (k := 2) (s' := s) (k' := L.length) _ (m := renBack [s, k] L.length) rfl (by simp [renBack])]
      rfl
    · show K _ ((L.set s (.tcells 47 2 [usedB s L.length (bs.length + x.length)])).set k .dead ++ [.tcells 5 1 (bytesRows (bs ++ x))])
      refine hk _ (.inr ⟨L.length, ?_, ?_, by simp [hx]⟩) fun i sz rows hi => ?_
      · rw [List.getElem?_append_left (by simp only [List.length_set]; exact hsl), List.getElem?_set_ne (Ne.symm hne), List.getElem?_set_self hsl, List.length_append]
      · rw [List.getElem?_append_right (by simp only [List.length_set]; exact Nat.le_refl _), List.length_set, List.length_set, Nat.sub_self]; rfl
      · have hne1 : s ≠ i := fun h0 => by subst h0; rw [hs] at hi; simp at hi
        have hne2 : k ≠ i := fun h0 => by subst h0; rw [hk'] at hi; simp at hi
        rw [List.getElem?_append_left (by simp only [List.length_set]; exact lt_of_get hi), List.getElem?_set_ne hne2, List.getElem?_set_ne hne1]; exact hi
theorem str_call (hP : E.P = Tryz.prog) {bs : List UInt8} {s : Nat} (hB : Bld L s bs) (hb : bs.length ≤ 70368744177664) (hk : ∀ L', Kept L L' → K (.str bs) L') : xcall E 24 [.ptr s 0 0] L K := by
  rcases hB with ⟨rfl, hs⟩ | ⟨k, hs, hk', hbs⟩
  · have hg : L.getD s .dead = .tcells 47 2 [freshB] := by rw [List.getD_eq_getElem?_getD, hs]; rfl
    have hrn : renSel [s] [] false s = some (some 0) := by simp [renSel, pos]
    have hsl := lt_of_get hs
    refine xcall_sel [s] (by simp) (fun t ht => ?_) (args' := [.ptr 0 0 0]) ?_ (L0 := [.tcells 47 2 [freshB]]) ?_ (string_fresh hP) ?_
    · rw [List.mem_singleton] at ht; subst ht; exact ⟨_, hs, rfl⟩
    · show mapO (conv L 12 _) [.ptr s 0 0] = _
      simp only [mapO, conv, hrn]
    · rw [List.map_cons, List.map_nil, hg]; rfl
    rintro r L1 ⟨rfl, rfl⟩
    refine ⟨_, [.tcells 47 2 [freshB]], rfl, rfl, ?_⟩
    show K _ (L.set s (.tcells 47 2 [freshB]) ++ [])
    rw [List.append_nil]
    refine hk _ fun i sz rows hi => ?_
    have hne : s ≠ i := fun h0 => by subst h0; rw [hs] at hi; simp at hi
    rw [List.getElem?_set_ne hne]; exact hi
  · have hne : s ≠ k := fun h0 => by subst h0; rw [hs] at hk'; simp at hk'
    have hgs : L.getD s .dead = .tcells 47 2 [usedB s k bs.length] := by rw [List.getD_eq_getElem?_getD, hs]; rfl
    have hgk : L.getD k .dead = .tcells 5 1 (bytesRows bs) := by rw [List.getD_eq_getElem?_getD, hk']; rfl
    have hrn : renSel [s, k] [] false s = some (some 0) := by simp [renSel, pos]
    have hrn' : renSel [s, k] [] false k = some (some 1) := by simp [renSel, pos, Ne.symm hne]
    refine xcall_sel [s, k] (by simp [hne]) (fun t ht => ?_) (args' := [.ptr 0 0 0]) ?_ (L0 := [.tcells 47 2 [usedB 0 1 bs.length], .tcells 5 1 (bytesRows bs)]) ?_ (string_used hP bs hbs (by omega)) ?_
    · simp only [List.mem_cons, List.not_mem_nil, or_false] at ht
      rcases ht with rfl | rfl
      · exact ⟨_, hs, rfl⟩
      · exact ⟨_, hk', rfl⟩
    · show mapO (conv L 12 _) [.ptr s 0 0] = _
      simp only [mapO, conv, hrn]
    · rw [List.map_cons, List.map_cons, List.map_nil, hgs, hgk]
      show mapO (convB _ 12 _) [.tcells 47 2 [usedB s k bs.length], .tcells 5 1 (bytesRows bs)] = _
      simp only [mapO, convB_bytes, convB_used (s := s) (k := k) (s' := 0) (k' := 1) _ hrn hrn']
    rintro r L1 ⟨rfl, rfl⟩
    refine ⟨_, [.tcells 47 2 [usedB s k bs.length], .dead], rfl, ?_, ?_⟩
    · show mapO (convB _ 12 _) [.tcells 47 2 [usedB 0 1 bs.length], .dead] = _
      simp only [mapO, convB_bytes, convB_used (s := 0) (k := 1) (s' := s) (k' := k) _ (m := renBack [s, k] L.length) rfl rfl]
      rfl
    · show K _ ((L.set s (.tcells 47 2 [usedB s k bs.length])).set k .dead ++ [])
      rw [List.append_nil]
      refine hk _ fun i sz rows hi => ?_
      have hne1 : s ≠ i := fun h0 => by subst h0; rw [hs] at hi; simp at hi
      have hne2 : k ≠ i := fun h0 => by subst h0; rw [hk'] at hi; simp at hi
      rw [List.getElem?_set_ne hne2, List.getElem?_set_ne hne1]; exact hi
theorem str_callQ {Q : IV → List Blk → Prop} (hP : E.P = Tryz.prog) {bs : List UInt8} {s : Nat} (hB : Bld L s bs) (hb : bs.length ≤ 70368744177664) (hk : ∀ L', Kept L L' → K (.str bs) L') : xcall (E.withPan Q) 24 [.ptr s 0 0] L K := str_call (E := E.withPan Q) hP hB hb hk
theorem wr_callQ {Q : IV → List Blk → Prop} {f : FuncId} {av : List IV} {x bs : List UInt8} {res : IV} {s : Nat} (h : WrOk (E.withPan Q) f av x res) (hp : av.all (plainD fuel) = true) (hr : plainD fuel res = true) (hB : Bld L s bs) (hx : x ≠ []) (hb : bs.length + x.length ≤ 70368744177664)
    (hk : ∀ L', Bld L' s (bs ++ x) → Kept L L' → K res L') : xcall (E.withPan Q) f (.ptr s 0 0 :: av) L K := wr_call (E := E.withPan Q) h hp hr hB hx hb hk
end
end Go.X.TryzW
end
section
/- Contracts of Go's library over seat ab of the front, as XPure: Itoa, Join. -/
namespace Go.X.TryzW
open Go Go.X Go.Proofs Go.RowKit
set_option maxRecDepth 100000
section
variable {E : Env}
theorem itoa_pure (hP : E.P = Tryz.prog) (ht : ∀ w, E.G w → Lib.TabIs Tryz.prog w "internal/strconv.uint64pow10" .u64 Lib.pow10Tab) (n : Int) (h0 : -9223372036854775808 ≤ n) (h1 : n ≤ 9223372036854775807) :
    XPure E 18 [.int .i64 n] (.str (Lib.itoa n)) := by
  refine xpure_below (bodied hP Tryz.func18 (by decide) (by rfl)) fun C vs _ hG _ _ hl hv => ?_
  obtain ⟨a, rfl, h2⟩ := one1 hl hv
  cases h2
  rw [hP]
  refine (Tryz.strconv_Itoa n h0 h1 C.w (ht _ hG)).mono fun e w' ⟨he, k, os, hw⟩ => ?_
  subst hw
  exact ⟨_, he, below_grow _ _ _, .str _⟩

end
end Go.X.TryzW
end
section
/- Contracts of Go's library over seat ab of the front, as XPure: Join. -/
namespace Go.X.TryzW
open Go Go.X Go.Proofs Go.RowKit
set_option maxRecDepth 100000
section
variable {E : Env}
theorem join_pure (hP : E.P = Tryz.prog) (l : List (List UInt8)) (sep : List UInt8) (hN : l.length ≤ 140737488355328) (hlen : (Lib.join l sep).length ≤ 140737488355328) : XPure E 34 [.isl (sRows l), .str sep] (.str (Lib.join l sep)) := by
  refine xpure_below (bodied hP Tryz.func34 (by decide) (by rfl)) fun C vs _ hG _ _ hl hv => ?_
  obtain ⟨a, b, rfl, h1, h2⟩ := two hl hv
  cases h2
  obtain ⟨ad, cap, rfl, hcap, h3⟩ := isl_strs h1
  rw [hP]
  rcases h3 with rfl | ⟨b, o, rfl, hb, hc⟩
  · refine (Tryz.strings_Join_none ad cap ⟨sep.toArray⟩ C.w).mono fun e w' ⟨he, hw⟩ => ⟨_, he, by rw [hw]; exact Below.refl _ _, ?_⟩
    exact .str []
  · have hm : (l.map fun s => (⟨s.toArray⟩ : ByteArray)).map (·.data.toList) = l := by rw [List.map_map]; exact (List.map_congr_left (fun s _ => by simp)).trans (List.map_id _)
    have := Tryz.strings_Join b o cap (l.map fun s => ⟨s.toArray⟩) ⟨sep.toArray⟩ C.w (fun j x hx => by
      rw [List.getElem?_map, Option.map_eq_some_iff] at hx
      obtain ⟨s, hs, rfl⟩ := hx
      exact hc j s hs) hb (by simpa using hN) (by simpa using hcap) (by rw [hm]; exact hlen)
    rw [hm, List.length_map] at this
    exact this.mono fun e w' ⟨he, hw⟩ => ⟨_, he, hw, .str _⟩

end
end Go.X.TryzW
end
