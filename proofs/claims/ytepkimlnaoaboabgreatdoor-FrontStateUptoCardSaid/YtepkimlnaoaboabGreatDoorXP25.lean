/- Parts of the proof: XgfValid, Xgfwakes, Xgfref1. -/
import Derived.Test.YtepkimlnaoaboabGreatDoorXP24
import Derived.Shelf.Unicode.ValidAny
import Derived.Lib.SplitLaws
set_option linter.unusedVariables false
set_option linter.unusedSimpArgs false
set_option linter.unusedSectionVars false
section
/- utf8.ValidString over the front seat: the kit's contract, laid. -/
namespace Go.X.TryzW
open Go Go.X Go.Proofs Go.RowKit
set_option maxRecDepth 100000
def vrenT : Go.Shelf.Ren := ⟨fun | 196 => 49 | 259 => 72 | n => n, fun | 0 => 0 | 3 => 3 | 4 => 4 | 5 => 5 | 9 => 9 | 12 => 12 | 46 => 82 | 53 => 117 | 119 => 100 | 138 => 102 | 139 => 103 | n => n, fun | 3 => 0 | 4 => 1 | n => n⟩
theorem laysV : Go.Proofs.Lays.n196 Tryz.prog vrenT := {
  mixed := by kernel_rfl
  f196 := Tryz.func49.trans (congrArg some (by kernel_rfl))
  f259 := Tryz.func72.trans (congrArg some (by kernel_rfl))
  t0 := Tryz.underlying0
  a0 := Tryz.isAgg0
  z0 := Tryz.sizeOf0
  v0 := Tryz.zeroValue0
  t3 := Tryz.underlying3
  a3 := Tryz.isAgg3
  z3 := Tryz.sizeOf3
  v3 := Tryz.zeroValue3
  t4 := Tryz.underlying4
  a4 := Tryz.isAgg4
  z4 := Tryz.sizeOf4
  v4 := Tryz.zeroValue4
  t5 := Tryz.underlying5
  a5 := Tryz.isAgg5
  z5 := Tryz.sizeOf5
  v5 := Tryz.zeroValue5
  t9 := Tryz.underlying9
  a9 := Tryz.isAgg9
  z9 := Tryz.sizeOf9
  v9 := Tryz.zeroValue9
  t12 := Tryz.underlying12
  a12 := Tryz.isAgg12
  z12 := Tryz.sizeOf12
  v12 := Tryz.zeroValue12
  t46 := Tryz.underlying82
  a46 := Tryz.isAgg82
  z46 := Tryz.sizeOf82
  v46 := Tryz.zeroValue82
  t53 := Tryz.underlying117
  a53 := Tryz.isAgg117
  z53 := Tryz.sizeOf117
  v53 := Tryz.zeroValue117
  t119 := Tryz.underlying100
  a119 := Tryz.isAgg100
  z119 := Tryz.sizeOf100
  t138 := Tryz.underlying102
  a138 := Tryz.isAgg102
  z138 := Tryz.sizeOf102
  v138 := Tryz.zeroValue102
  t139 := Tryz.underlying103
  a139 := Tryz.isAgg103
  z139 := Tryz.sizeOf103
  v139 := Tryz.zeroValue103
  g3 := by kernel_rfl
  g4 := by kernel_rfl }
section
variable {E : Env}
theorem valid_pure (hP : E.P = Tryz.prog) (ht : ∀ w, E.G w → Lib.Utf8Tabs 0 1 w) (s : List UInt8) (hs : s.length ≤ 9223372036854775807) : XPure E 49 [.str s] (.bool (Lib.validD s)) := by
  refine xpure_below (bodied hP Tryz.func49 (by decide) (by rfl)) fun C vs _ hG _ _ hl hv => ?_
  obtain ⟨a, rfl, h2⟩ := one1 hl hv
  cases h2
  rw [hP]
  refine (Any.utf8_ValidString laysV ⟨s.toArray⟩ C.w (by simpa [ByteArray.size] using hs) (ht _ hG)).mono fun e w' ⟨he, hw⟩ => ?_
  exact ⟨_, he, hw, .bool _⟩
end
end Go.X.TryzW
end
section
open Go Go.X Go.Proofs
set_option maxRecDepth 100000
set_option maxHeartbeats 4000000
set_option linter.unusedSimpArgs false
set_option linter.unusedVariables false
namespace Go.X.TryzW
/- "tiller/tillerlaw13.wakes" params { toList := [] } results { toList := [Go.ResultVar.tmp 0] } -/
def y14 : XC :=
 (.seq
  (.ops [
    ⟨(some 0), (.mov (.c (.bool false))), none⟩])
  (.seq
   (.ops [
     ⟨(some 11), (.bslice 1 [(.int .u8 0)] 52 [(0, (.c (.int .u8 80))), (1, (.c (.int .u8 79))), (2, (.c (.int .u8 83))), (3, (.c (.int .u8 84))), (4, (.c (.int .u8 32))), (5, (.c (.int .u8 47))), (6, (.c (.int .u8 115))), (7, (.c (.int .u8 116))), (8, (.c (.int .u8 97))), (9, (.c (.int .u8 114))), (10, (.c (.int .u8 116))), (11, (.c (.int .u8 32))), (12, (.c (.int .u8 72))), (13, (.c (.int .u8 84))), (14, (.c (.int .u8 84))), (15, (.c (.int .u8 80))), (16, (.c (.int .u8 47))), (17, (.c (.int .u8 49))), (18, (.c (.int .u8 46))), (19, (.c (.int .u8 49))), (20, (.c (.int .u8 13))), (21, (.c (.int .u8 10))), (22, (.c (.int .u8 67))), (23, (.c (.int .u8 111))), (24, (.c (.int .u8 110))), (25, (.c (.int .u8 116))), (26, (.c (.int .u8 101))), (27, (.c (.int .u8 110))), (28, (.c (.int .u8 116))), (29, (.c (.int .u8 45))), (30, (.c (.int .u8 76))), (31, (.c (.int .u8 101))), (32, (.c (.int .u8 110))), (33, (.c (.int .u8 103))), (34, (.c (.int .u8 116))), (35, (.c (.int .u8 104))), (36, (.c (.int .u8 58))), (37, (.c (.int .u8 32))), (38, (.c (.int .u8 57))), (39, (.c (.int .u8 13))), (40, (.c (.int .u8 10))), (41, (.c (.int .u8 13))), (42, (.c (.int .u8 10))), (43, (.c (.int .u8 123))), (44, (.c (.int .u8 34))), (45, (.c (.int .u8 97))), (46, (.c (.int .u8 34))), (47, (.c (.int .u8 58))), (48, (.c (.int .u8 34))), (49, (.c (.int .u8 120))), (50, (.c (.int .u8 34))), (51, (.c (.int .u8 125)))]), none⟩,
     ⟨(some 12), (.ex .slId [(.t 11)]), none⟩,
     ⟨(some 13), (.call (.f 29) [(.t 12)]), none⟩,
     ⟨(some 10), (.mov (.t 13)), none⟩,
     ⟨(some 14), (.ext (.t 10) 0), none⟩,
     ⟨(some 15), (.ext (.t 10) 1), none⟩,
     ⟨(some 16), (.ext (.t 10) 2), none⟩,
     ⟨(some 17), (.ext (.t 10) 3), none⟩,
     ⟨(some 1), (.mov (.t 14)), none⟩,
     ⟨(some 2), (.mov (.t 15)), none⟩,
     ⟨(some 3), (.mov (.t 16)), none⟩,
     ⟨(some 4), (.mov (.t 17)), none⟩])
   (.seq
    (.ops [
      ⟨(some 19), (.mov (.t 3)), none⟩,
      ⟨(some 20), (.call (.f 30) [(.t 19)]), none⟩,
      ⟨(some 18), (.mov (.t 20)), none⟩,
      ⟨(some 21), (.ext (.t 18) 0), none⟩,
      ⟨(some 22), (.ext (.t 18) 1), none⟩,
      ⟨(some 23), (.ext (.t 18) 2), none⟩,
      ⟨(some 5), (.mov (.t 21)), none⟩,
      ⟨(some 6), (.mov (.t 22)), none⟩,
      ⟨(some 7), (.mov (.t 23)), none⟩])
    (.seq
     (.ops [
       ⟨(some 25), (.mov (.t 5)), none⟩,
       ⟨(some 26), (.call (.f 31) [(.t 25), (.c (.str [97]))]), none⟩,
       ⟨(some 24), (.mov (.t 26)), none⟩,
       ⟨(some 27), (.ext (.t 24) 0), none⟩,
       ⟨(some 28), (.ext (.t 24) 1), none⟩,
       ⟨(some 8), (.mov (.t 27)), none⟩,
       ⟨(some 9), (.mov (.t 28)), none⟩])
     (.seq
      (.ops [
        ⟨(some 29), (.mov (.t 1)), none⟩,
        ⟨(some 30), (.bin .eql (.t 29) (.c (.str [80, 79, 83, 84]))), none⟩,
        ⟨(some 31), (.mov (.t 30)), none⟩,
        ⟨(some 32), (.mov (.t 2)), (some (31, true))⟩,
        ⟨(some 33), (.bin .eql (.t 32) (.c (.str [47, 115, 116, 97, 114, 116]))), (some (31, true))⟩,
        ⟨(some 34), (.pick (.t 31) (.t 33) (.c (.bool false))), none⟩,
        ⟨(some 35), (.mov (.t 34)), none⟩,
        ⟨(some 36), (.mov (.t 4)), (some (35, true))⟩,
        ⟨(some 37), (.bin .eql (.t 36) (.c (.int .i64 200))), (some (35, true))⟩,
        ⟨(some 38), (.pick (.t 35) (.t 37) (.c (.bool false))), none⟩,
        ⟨(some 39), (.mov (.t 38)), none⟩,
        ⟨(some 40), (.mov (.t 7)), (some (39, true))⟩,
        ⟨(some 41), (.bin .eql (.t 40) (.c (.int .i64 0))), (some (39, true))⟩,
        ⟨(some 42), (.pick (.t 39) (.t 41) (.c (.bool false))), none⟩,
        ⟨(some 43), (.mov (.t 42)), none⟩,
        ⟨(some 44), (.mov (.t 9)), (some (43, true))⟩,
        ⟨(some 45), (.pick (.t 43) (.t 44) (.c (.bool false))), none⟩,
        ⟨(some 46), (.mov (.t 45)), none⟩,
        ⟨(some 47), (.mov (.t 8)), (some (46, true))⟩,
        ⟨(some 48), (.bin .eql (.t 47) (.c (.str [120]))), (some (46, true))⟩,
        ⟨(some 49), (.pick (.t 46) (.t 48) (.c (.bool false))), none⟩,
        ⟨(some 0), (.mov (.t 49)), none⟩])
      .ret)))))

section
variable {E : Env} {L : List Blk} {K : IV → List Blk → Prop}
theorem o_bsliceK {sz len : Nat} {zero : List IV} {parts : List (Nat × Opd)} {rows : List (List IV)} (h1 : zero.length = sz) (h2 : xfillRows sz (List.replicate len zero) (parts.map fun p => (p.1, cev p.2)) = some rows) (h : K (.sl L.length 0 len len) (L ++ [.cells sz rows])) :
    xop E (.bslice sz zero len parts) cev L K := by
  unfold xop
  refine ⟨h1, ?_⟩
  rw [h2]; exact h
def reqL : List UInt8 := [80, 79, 83, 84, 32, 47, 115, 116, 97, 114, 116, 32, 72, 84, 84, 80, 47, 49, 46, 49, 13, 10, 67, 111, 110, 116, 101, 110, 116, 45, 76, 101, 110, 103, 116, 104, 58, 32, 57, 13, 10, 13, 10, 123, 34, 97, 34, 58, 34, 120, 34, 125]
def bodL : List UInt8 := [123, 34, 97, 34, 58, 34, 120, 34, 125]
theorem req_read : readF Lib.validD reqL = ⟨[80, 79, 83, 84], [47, 115, 116, 97, 114, 116], bodL, 200⟩ := by kernel_rfl
theorem bod_obj : Fr.body bodL = .ok [⟨[97], [34, 120]⟩] := by kernel_rfl
theorem wakes_pure (hP : E.P = Tryz.prog) {m : Int} (hm : E.gl 2 = some [.int .i64 m]) (ht : ∀ w, E.G w → Lib.Utf8Tabs 0 1 w) : XPure E 15 [] (.bool true) := by
  refine xpure1 (n := Tryz.f15.ntmps) (c := y14) (t := 0) (by rw [hP]; rfl) (by rw [hP]; kernel_rfl) (by decide) (Nat.le_of_ble_eq_true rfl) ?_
  generalize hρ : entry _ = ρ
  clear hρ
  unfold y14
  simp only [go_sem, Nat.reduceEqDiff, reduceIte, Int.reduceEq, Int.reduceLT, Int.reduceLE, Nat.reduceAdd, Nat.reduceLT, Nat.reduceLeDiff, Int.reduceToNat, Int.reduceSub, Int.reduceAdd, Int.reduceNeg]
  refine o_bsliceK (rows := bytesRows reqL) rfl (by kernel_rfl) ?_
  simp only [go_sem, Nat.reduceEqDiff, reduceIte, Int.reduceEq, Int.reduceLT, Int.reduceLE, Nat.reduceAdd, Nat.reduceLT, Nat.reduceLeDiff, Int.reduceToNat, Int.reduceSub, Int.reduceAdd, Int.reduceNeg]
  refine ⟨by omega, ?_⟩
  show xcall E.noPan 29 [.sl 0 0 52 52] [.cells 1 (bytesRows reqL)] _
  have hrd := read_pure (E := E.noPan) hP hm Lib.validD (fun s hs => valid_pure (E := E.noPan) hP ht s (by omega)) reqL (by decide)
  rw [req_read] at hrd
  refine xcall_lend (args' := [.isl (bytesRows reqL)]) (by kernel_rfl) hrd rfl rfl ?_
  unfold Req.iv
  simp only [go_sem, Nat.reduceEqDiff, reduceIte, Int.reduceEq, Int.reduceLT, Int.reduceLE, Nat.reduceAdd, Nat.reduceLT, Nat.reduceLeDiff, Int.reduceToNat, Int.reduceSub, Int.reduceAdd, Int.reduceNeg]
  have hob := obj_pure (E := E.noPan) hP ht bodL (by decide)
  have hoi : objIV bodL = .tup [.isl (pRows [⟨[97], [34, 120]⟩]), .int .i64 0, .int .i64 0] := by unfold objIV; rw [bod_obj]
  rw [hoi] at hob
  refine xcall_pure (args' := [.str bodL]) rfl hob rfl ?_
  simp only [go_sem, Nat.reduceEqDiff, reduceIte, Int.reduceEq, Int.reduceLT, Int.reduceLE, Nat.reduceAdd, Nat.reduceLT, Nat.reduceLeDiff, Int.reduceToNat, Int.reduceSub, Int.reduceAdd, Int.reduceNeg]
  refine xcall_pure (args' := [.isl (pRows [⟨[97], [34, 120]⟩]), .str [97]]) rfl (text_pure (E := E.noPan) hP [⟨[97], [34, 120]⟩] (by decide) [97]) rfl ?_
  rw [show textP [⟨[97], [34, 120]⟩] [97] = ([120], true) from by kernel_rfl]
  simp only [go_sem, Nat.reduceEqDiff, reduceIte, Int.reduceEq, Int.reduceLT, Int.reduceLE, Nat.reduceAdd, Nat.reduceLT, Nat.reduceLeDiff, Int.reduceToNat, Int.reduceSub, Int.reduceAdd, Int.reduceNeg]
  rfl
end
end Go.X.TryzW
end
section
open Go Go.X Go.Proofs
set_option maxRecDepth 100000
set_option maxHeartbeats 4000000
set_option linter.unusedSimpArgs false
set_option linter.unusedVariables false
namespace Go.X.TryzW
/- "tiller/tillerref13.index" params { toList := [9, 9] } results { toList := [Go.ResultVar.tmp 4] } -/
/- "tiller/tillerref13.within" params { toList := [9, 5, 5] } results { toList := [Go.ResultVar.tmp 6] } -/
/- "tiller/tillerref13.name" params { toList := [9] } results { toList := [Go.ResultVar.tmp 2] } -/
section
variable {E : Env}
end
end Go.X.TryzW
end
