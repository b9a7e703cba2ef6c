/- Parts of the proof: XzLib, Xzwords, Xzsaid. -/
import Derived.Test.YtnejaochjehhgaaGreatDoorXP13
import Derived.Lib.AtoiErrMem
import Derived.Shelf.Strings.FieldsFuncGrows
set_option linter.unusedVariables false
set_option linter.unusedSimpArgs false
set_option linter.unusedSectionVars false
section
/- Contracts of Go's library over the seat, as XPure: Itoa, Atoi, Join, Split, FieldsFunc. -/
namespace Go.X.TryzW
open Go Go.X Go.Proofs Go.RowKit
set_option maxRecDepth 100000
section
variable {E : Env}
theorem one1 {C : Ctx} {x : IV} {vs : List Value} (hl : [x].length = vs.length) (hv : ∀ (i : Nat) (z : IV), [x][i]? = some z → VR C z (vs.getD i undef)) : ∃ a, vs = [a] ∧ VR C x a := by
  match vs, hl with
  | [a], _ => exact ⟨a, rfl, hv 0 x rfl⟩
theorem bodied (hP : E.P = Tryz.prog) {f : Nat} {fn : Func} (h : Tryz.prog.funcs[f]? = some fn) (h1 : fn.name ≠ "runtime.NumGoroutine") (h2 : fn.body.isNone = false) : Bodied E.P f := ⟨fn, by rw [hP]; exact h, h1, h2⟩

theorem itoa_pure (hP : E.P = Tryz.prog) (ht : ∀ w, E.G w → Lib.TabIs Tryz.prog w "internal/strconv.uint64pow10" .u64 Lib.pow10Tab) (n : Int) (h0 : -9223372036854775808 ≤ n) (h1 : n ≤ 9223372036854775807) :
    XPure E 33 [.int .i64 n] (.str (Lib.itoa n)) := by
  refine xpure_below (bodied hP Tryz.func33 (by decide) (by rfl)) fun C vs _ hG _ _ hl hv => ?_
  obtain ⟨a, rfl, h2⟩ := one1 hl hv
  cases h2
  rw [hP]
  refine (Tryz.strconv_Itoa n h0 h1 C.w (ht _ hG)).mono fun e w' ⟨he, k, os, hw⟩ => ?_
  subst hw
  exact ⟨_, he, below_grow _ _ _, .str _⟩

theorem atoi_pure (hP : E.P = Tryz.prog) (s : List UInt8) (n : Int) (hl : s.length ≤ 18) (h : Lib.atoi s = some n) : XPure E 68 [.str s] (.tup [.int .i64 n, .raw .nilIface]) := by
  refine xpure_below (bodied hP Tryz.func68 (by decide) (by rfl)) fun C vs _ hG _ _ hl' hv => ?_
  obtain ⟨a, rfl, h2⟩ := one1 hl' hv
  cases h2
  rw [hP]
  refine (Tryz.strconv_Atoi ⟨s.toArray⟩ n (by simpa [ByteArray.size] using hl) (by simpa using h) C.w).mono fun e w' ⟨he, t, hw⟩ => ?_
  subst hw
  refine ⟨_, he, Lib.bytesWorld_below _ _ _, ?_⟩
  refine .tup _ [_, _] rfl fun i x hi => ?_
  match i, hi with
  | 0, hi => cases hi; exact .int _ _
  | 1, hi => cases hi; exact .raw _ rfl

theorem join_pure (hP : E.P = Tryz.prog) (l : List (List UInt8)) (sep : List UInt8) (hN : l.length ≤ 140737488355328) (hlen : (Lib.join l sep).length ≤ 140737488355328) : XPure E 34 [.isl (sRows l), .str sep] (.str (Lib.join l sep)) := by
  refine xpure_below (bodied hP Tryz.func34 (by decide) (by rfl)) fun C vs _ hG _ _ hl hv => ?_
  obtain ⟨a, b, rfl, h1, h2⟩ := two hl hv
  cases h2
  obtain ⟨ad, cap, rfl, hcap, h3⟩ := isl_strs h1
  rw [hP]
  rcases h3 with rfl | ⟨b, o, rfl, hb, hc⟩
  · refine (Tryz.strings_Join_none ad cap ⟨sep.toArray⟩ C.w).mono fun e w' ⟨he, hw⟩ => ⟨_, he, by rw [hw]; exact Below.refl _ _, ?_⟩
    exact .str []
  · have hm : (l.map fun s => (⟨s.toArray⟩ : ByteArray)).map (·.data.toList) = l := by rw [List.map_map]; exact (List.map_congr_left (fun s _ => by simp)).trans (List.map_id _)
    have := Tryz.strings_Join b o cap (l.map fun s => ⟨s.toArray⟩) ⟨sep.toArray⟩ C.w (fun j x hx => by
      rw [List.getElem?_map, Option.map_eq_some_iff] at hx
      obtain ⟨s, hs, rfl⟩ := hx
      exact hc j s hs) hb (by simpa using hN) (by simpa using hcap) (by rw [hm]; exact hlen)
    rw [hm, List.length_map] at this
    exact this.mono fun e w' ⟨he, hw⟩ => ⟨_, he, hw, .str _⟩

/-- The pieces. -/
def splitL (sep s : List UInt8) : List (List UInt8) := (Lib.splitB ⟨sep.toArray⟩ 0 (Lib.countB ⟨s.toArray⟩ ⟨sep.toArray⟩) ⟨s.toArray⟩).map (·.data.toList)
theorem split_pure (hP : E.P = Tryz.prog) {m : Int} (hm : E.gl 0 = some [.int .i64 m]) (s sep : List UInt8) (hs : s.length < 4294967281) (h1 : 1 ≤ sep.length) : XPure E 21 [.str s, .str sep] (.isl (sRows (splitL sep s))) := by
  refine xpure_below (bodied hP Tryz.func21 (by decide) (by rfl)) fun C vs _ hG _ hown hl hv => ?_
  obtain ⟨a, b, rfl, h1', h2⟩ := two hl hv
  cases h1'; cases h2
  obtain ⟨u, hu1, hu2⟩ := E.hgl C.w 0 _ hG hm 0 _ rfl
  have hu3 := hu2 C
  cases hu3
  rw [hP]
  refine (Tryz.strings_Split ⟨s.toArray⟩ ⟨sep.toArray⟩ m C.w (by simpa [ByteArray.size] using hs) hu1 (by simpa [ByteArray.size] using h1)).mono fun e w' ⟨he, hw⟩ => ?_
  have hn : (splitL sep s).length = Lib.countB ⟨s.toArray⟩ ⟨sep.toArray⟩ + 1 := by
    unfold splitL
    rw [List.length_map]
    exact Lib.splitB_all _ (by simpa [ByteArray.size] using h1) 0 _ _ rfl
  subst hw
  refine ⟨_, he, (Below.refl _ _).alloc (Nat.le_refl _) _, ?_⟩
  rw [← hn]
  refine vr_sRows (Nat.le_refl _) (by simp) (fun ho => ?_) fun i t hi => ?_
  · rcases ho with ho | ⟨q, k, hk, _⟩
    · exact absurd (hown _ (.inl ho)) (Nat.lt_irrefl _)
    · simp at hk
  · unfold splitL at hi
    rw [List.getElem?_map, Option.map_eq_some_iff] at hi
    obtain ⟨p, hp, rfl⟩ := hi
    rw [Nat.zero_add]
    simp [World.cell?, World.alloc, -World.alloc_eq, hp]
end
end Go.X.TryzW
end
section
open Go Go.X Go.Proofs Go.RowKit
set_option maxRecDepth 100000
set_option maxHeartbeats 4000000
set_option linter.unusedSimpArgs false
set_option linter.unusedVariables false
namespace Go.X.TryzW
/- "tiller/dag.words$1" params { toList := [21] } results { toList := [Go.ResultVar.tmp 2] } -/
def y44 : XC :=
 (.seq
  (.ops [
    ⟨(some 2), (.mov (.c (.bool false))), none⟩])
  (.seq
   (.ops [
     ⟨(some 3), (.mov (.t 0)), none⟩,
     ⟨(some 4), (.bin .eql (.t 3) (.c (.int .i32 32))), none⟩,
     ⟨(some 2), (.mov (.t 4)), none⟩])
   .ret))

/- "tiller/dag.words" params { toList := [9] } results { toList := [Go.ResultVar.tmp 2] } -/
def y22 : XC :=
 (.seq
  (.ops [
    ⟨(some 2), (.mov (.c .nsl)), none⟩])
  (.seq
   (.ops [
     ⟨(some 3), (.mov (.t 0)), none⟩,
     ⟨(some 4), (.call (.f 43) [(.t 3), (.f 44)]), none⟩,
     ⟨(some 2), (.mov (.t 4)), none⟩])
   .ret))

section
variable {E : Env}
theorem blank_pure (hP : E.P = Tryz.prog) (c : Int) : XPure E 44 [.int .i32 c] (.bool (decide (c = 32))) := by
  refine xpure1 (n := Tryz.f44.ntmps) (c := y44) (t := 2) (by rw [hP]; rfl) (by rw [hP]; kernel_rfl) (by decide) (Nat.le_of_ble_eq_true rfl) ?_
  generalize hρ : entry _ = ρ
  have h0 : ρ 0 = .int .i32 c := by rw [← hρ]; rfl
  clear hρ
  unfold y44
  simp only [h0, go_sem, Nat.reduceEqDiff, reduceIte, Int.reduceEq, Int.reduceLT, Int.reduceLE, Nat.reduceAdd, Nat.reduceLT, Nat.reduceLeDiff, Int.reduceToNat, Int.reduceSub, Int.reduceAdd, Int.reduceNeg]
  try rfl
def blankR (x : Nat) : Bool := decide ((x : Int) = 32)
def fieldsL (s : List UInt8) : List (List UInt8) := (Lib.goFieldsP blankR ⟨s.toArray⟩).map (·.data.toList)
theorem fields_pure (hP : E.P = Tryz.prog) (s : List UInt8) (hs : s.length ≤ 4294967296) : XPure E 43 [.str s, .fn (.func 44) [] []] (.isl (sRows (fieldsL s))) := by
  refine xpure_below (bodied hP Tryz.func43 (by decide) (by rfl)) fun C vs _ hG hg hown hl hv => ?_
  obtain ⟨a, b, rfl, h1', h2⟩ := two hl hv
  cases h1'
  cases h2 with
  | fn _ _ _ va vb ha hb _ _ =>
  obtain rfl : va = [] := List.eq_nil_of_length_eq_zero (by simpa using ha.symm)
  obtain rfl : vb = [] := List.eq_nil_of_length_eq_zero (by simpa using hb.symm)
  rw [hP]
  have hp : PredGrows Tryz.prog 44 #[] blankR C.w := fun W x hx hbl => by
    have hGW : E.G W := E.hG C.w W (fun b hb => hbl.block b (by omega)) hG
    have := xpure_calls (blank_pure hP (x : Int)) hGW (Nat.le_trans hg hbl.size) (vs := [.int .i32 x]) rfl (fun C i y hi => by
      match i, hi with
      | 0, hi => cases hi; exact .int _ _)
    rw [hP] at this
    refine this.mono fun e w' ⟨v, he, hw, hvr⟩ => ?_
    cases hvr
    exact ⟨he, hw⟩
  refine (Any.strings_FieldsFunc_grows Tryz.lays229 44 #[] (enters_of Tryz.func44 (by kernel_rfl) rfl) blankR ⟨s.toArray⟩ C.w (by simpa [ByteArray.size] using hs) hp (by kernel_rfl) (by kernel_rfl)).mono fun e w' ⟨A, he, hA, hown', hw⟩ => ?_
  have hn : (fieldsL s).length = (Lib.goFieldsP blankR ⟨s.toArray⟩).length := by simp [fieldsL]
  refine ⟨_, he, hw, ?_⟩
  rw [← hn] at hown' ⊢
  obtain ⟨hlen, h3⟩ := hown'
  rcases h3 with ⟨h3, _⟩ | ⟨g, cap, cur, h3, _, hc, hcap, _, hcs, htk⟩
  · cases h3
  · cases h3
    have hA' : A < w'.heap.size := (Array.getElem?_eq_some_iff.1 hc).1
    refine vr_sRows (Nat.le_refl _) hA' (fun ho => ?_) fun i t hi => ?_
    · rcases ho with ho | ⟨q, k, hk, _⟩
      · have := hown _ (.inl ho); omega
      · simp at hk
    · unfold fieldsL at hi
      rw [List.getElem?_map, Option.map_eq_some_iff] at hi
      obtain ⟨p, hp, rfl⟩ := hi
      have h5 : ((Lib.goFieldsP blankR ⟨s.toArray⟩).map Value.string)[i]? = some (.string p) := by rw [List.getElem?_map, hp]; rfl
      rw [← htk] at h5
      have hi' := lt_of_getL hp
      rw [List.getElem?_take] at h5
      split at h5
      · rw [Nat.zero_add]
        simp only [World.cell?, hc]
        rw [← Array.getElem?_toList]
        exact h5
      · cases h5
theorem words_pure (hP : E.P = Tryz.prog) (s : List UInt8) (hs : s.length ≤ 4294967296) : XPure E 22 [.str s] (.isl (sRows (fieldsL s))) := by
  refine xpure1 (n := Tryz.f22.ntmps) (c := y22) (t := 2) (by rw [hP]; rfl) (by rw [hP]; kernel_rfl) (by decide) (Nat.le_of_ble_eq_true rfl) ?_
  generalize hρ : entry _ = ρ
  have h0 : ρ 0 = .str s := by rw [← hρ]; rfl
  clear hρ
  unfold y22
  simp only [h0, go_sem, Nat.reduceEqDiff, reduceIte, Int.reduceEq, Int.reduceLT, Int.reduceLE, Nat.reduceAdd, Nat.reduceLT, Nat.reduceLeDiff, Int.reduceToNat, Int.reduceSub, Int.reduceAdd, Int.reduceNeg]
  refine xcall_pure (args' := [.str s, .fn (.func 44) [] []]) rfl (fields_pure hP s hs) rfl ?_
  simp only [h0, go_sem, Nat.reduceEqDiff, reduceIte, Int.reduceEq, Int.reduceLT, Int.reduceLE, Nat.reduceAdd, Nat.reduceLT, Nat.reduceLeDiff, Int.reduceToNat, Int.reduceSub, Int.reduceAdd, Int.reduceNeg]
  try rfl
end
end Go.X.TryzW
end
section
open Go Go.X Go.Proofs
set_option maxRecDepth 100000
set_option maxHeartbeats 4000000
set_option linter.unusedSimpArgs false
set_option linter.unusedVariables false
namespace Go.X.TryzW
def y14d : XC :=
 (.seq (.ops [ ⟨(some 13), (.fldA 1 (.t 1)), none⟩, ⟨(some 14), (.load1 (.t 13)), none⟩]) (.block 0 (.seq (.ops [ ⟨(some 21), (.bin .eql (.t 14) (.c (.int .i64 2))), none⟩, ⟨(some 20), (.mov (.t 21)), none⟩]) (.cond (.t 20) (.ops [ ⟨(some 22), (.mov (.t 4)), none⟩, ⟨(some 23), (.fldA 4 (.t 1)), none⟩, ⟨(some 24), (.load1 (.t 23)), none⟩, ⟨(some 25), (.call (.f 33) [(.t 24)]), none⟩, ⟨(some 26), (.bslice 1 [(.str [])] 1 [(0, (.t 25))]), none⟩, ⟨(some 27), (.append 1 16 (.t 22) (.t 26)), none⟩, ⟨(some 4), (.mov (.t 27)), none⟩]) (.seq (.ops [ ⟨(some 29), (.bin .eql (.t 14) (.c (.int .i64 5))), none⟩, ⟨(some 28), (.mov (.t 29)), none⟩]) (.cond (.t 28) (.ops [ ⟨(some 30), (.mov (.t 4)), none⟩, ⟨(some 31), (.fldA 3 (.t 1)), none⟩, ⟨(some 32), (.load1 (.t 31)), none⟩, ⟨(some 33), (.fldA 2 (.t 1)), none⟩, ⟨(some 34), (.load1 (.t 33)), none⟩, ⟨(some 35), (.bslice 1 [(.str [])] 2 [(0, (.t 32)), (1, (.t 34))]), none⟩, ⟨(some 36), (.append 1 16 (.t 30) (.t 35)), none⟩, ⟨(some 4), (.mov (.t 36)), none⟩]) (.ops [ ⟨(some 15), (.mov (.t 4)), none⟩, ⟨(some 16), (.fldA 2 (.t 1)), none⟩, ⟨(some 17), (.load1 (.t 16)), none⟩, ⟨(some 18), (.bslice 1 [(.str [])] 1 [(0, (.t 17))]), none⟩, ⟨(some 19), (.append 1 16 (.t 15) (.t 18)), none⟩, ⟨(some 4), (.mov (.t 19)), none⟩])))))))
def y14e : XC :=
 (.seq (.ops [ ⟨(some 37), (.fldA 1 (.t 1)), none⟩, ⟨(some 38), (.load1 (.t 37)), none⟩, ⟨(some 39), (.bin .eql (.t 38) (.c (.int .i64 1))), none⟩, ⟨(some 40), (.mov (.t 39)), none⟩, ⟨(some 41), (.fldA 5 (.t 1)), (some (40, true))⟩, ⟨(some 42), (.load1 (.t 41)), (some (40, true))⟩, ⟨(some 43), (.bin .neq (.t 42) (.c (.int .i64 1))), (some (40, true))⟩, ⟨(some 44), (.pick (.t 40) (.t 43) (.c (.bool false))), none⟩]) (.cond (.t 44) (.ops [ ⟨(some 45), (.mov (.t 4)), none⟩, ⟨(some 46), (.fldA 5 (.t 1)), none⟩, ⟨(some 47), (.load1 (.t 46)), none⟩, ⟨(some 48), (.call (.f 33) [(.t 47)]), none⟩, ⟨(some 49), (.bslice 1 [(.str [])] 2 [(0, (.c (.str [116, 114, 105, 101, 115]))), (1, (.t 48))]), none⟩, ⟨(some 50), (.append 1 16 (.t 45) (.t 49)), none⟩, ⟨(some 4), (.mov (.t 50)), none⟩]) .skip))
def y14f : XC :=
 (.seq (.ops [ ⟨(some 51), (.fldA 1 (.t 1)), none⟩, ⟨(some 52), (.load1 (.t 51)), none⟩, ⟨(some 53), (.bin .eql (.t 52) (.c (.int .i64 1))), none⟩, ⟨(some 54), (.mov (.t 53)), none⟩, ⟨(some 55), (.fldA 4 (.t 1)), (some (54, true))⟩, ⟨(some 56), (.load1 (.t 55)), (some (54, true))⟩, ⟨(some 57), (.bin .neq (.t 56) (.c (.int .i64 0))), (some (54, true))⟩, ⟨(some 58), (.pick (.t 54) (.t 57) (.c (.bool false))), none⟩]) (.cond (.t 58) (.ops [ ⟨(some 59), (.mov (.t 4)), none⟩, ⟨(some 60), (.fldA 4 (.t 1)), none⟩, ⟨(some 61), (.load1 (.t 60)), none⟩, ⟨(some 62), (.call (.f 33) [(.t 61)]), none⟩, ⟨(some 63), (.bslice 1 [(.str [])] 2 [(0, (.c (.str [116, 105, 109, 101, 111, 117, 116]))), (1, (.t 62))]), none⟩, ⟨(some 64), (.append 1 16 (.t 59) (.t 63)), none⟩, ⟨(some 4), (.mov (.t 64)), none⟩]) .skip))
def y14g : XC :=
 (.seq (.ops [ ⟨(some 65), (.fldA 6 (.t 1)), none⟩, ⟨(some 66), (.load1 (.t 65)), none⟩, ⟨(some 67), (.len (.t 66)), none⟩, ⟨(some 68), (.bin .gtr (.t 67) (.c (.int .i64 0))), none⟩]) (.cond (.t 68) (.drawR [(⟨(some 69), (.mov (.t 4)), none⟩, ([], false)), (⟨(some 70), (.bslice 1 [(.str [])] 1 [(0, (.c (.str [97, 102, 116, 101, 114])))]), none⟩, ([], true)), (⟨(some 71), (.append 1 16 (.t 69) (.t 70)), none⟩, ([], true)), (⟨(some 72), (.fldA 6 (.t 1)), none⟩, ([], false)), (⟨(some 73), (.load1 (.t 72)), none⟩, ([1, 2], false)), (⟨(some 74), (.append 1 16 (.t 71) (.t 73)), none⟩, ([], false)), (⟨(some 4), (.mov (.t 74)), none⟩, ([], false))]) .skip))
/- "tiller/dag.said" params { toList := [37] } results { toList := [Go.ResultVar.tmp 2] } -/
def y14 : XC :=
 (.seq (.ops [ ⟨(some 1), (.box (.t 0)), none⟩, ⟨(some 2), (.mov (.c (.str []))), none⟩]) (.seq (.ops [ ⟨(some 5), (.build [(.str []), (.str []), (.str []), (.str []), (.str []), (.str [])] [(1, (1, (.c (.str [97, 99, 116, 105, 118, 105, 116, 121])))), (2, (1, (.c (.str [116, 105, 109, 101, 114])))), (3, (1, (.c (.str [99, 104, 105, 108, 100])))), (4, (1, (.c (.str [119, 97, 105, 116])))), (5, (1, (.c (.str [115, 101, 110, 100]))))]), none⟩, ⟨(some 3), (.alloc [(.str []), (.str []), (.str []), (.str []), (.str []), (.str [])]), none⟩, ⟨none, (.store 6 (.t 3) (.t 5)), none⟩]) (.seq (.drawR [(⟨(some 6), (.fldA 0 (.t 1)), none⟩, ([], false)), (⟨(some 7), (.load1 (.t 6)), none⟩, ([], false)), (⟨(some 8), (.fldA 1 (.t 1)), none⟩, ([], false)), (⟨(some 9), (.load1 (.t 8)), none⟩, ([], false)), (⟨(some 10), (.idxA 6 1 (.t 3) (.t 9)), none⟩, ([], false)), (⟨(some 11), (.load1 (.t 10)), none⟩, ([], false)), (⟨(some 12), (.bslice 1 [(.str [])] 2 [(0, (.t 7)), (1, (.t 11))]), none⟩, ([], false)), (⟨(some 4), (.mov (.t 12)), none⟩, ([], false))]) (.seq y14d (.seq y14e (.seq y14f (.seq y14g (.seq (.ops [ ⟨(some 75), (.mov (.t 4)), none⟩, ⟨(some 76), (.call (.f 34) [(.t 75), (.c (.str [32]))]), none⟩, ⟨(some 77), (.bin .add (.t 76) (.c (.str [10]))), none⟩, ⟨(some 2), (.mov (.t 77)), none⟩]) .ret))))))))
section
variable {E : Env}
def kindS (k : Int) : List UInt8 :=
  if k = 1 then [97, 99, 116, 105, 118, 105, 116, 121] else if k = 2 then [116, 105, 109, 101, 114] else if k = 3 then [99, 104, 105, 108, 100] else if k = 4 then [119, 97, 105, 116] else [115, 101, 110, 100]
def NodeD.w1 (n : NodeD) : List (List UInt8) := if n.kind = 2 then [Lib.itoa n.delay] else if n.kind = 5 then [n.to, n.arg] else [n.arg]
def NodeD.w2 (n : NodeD) : List (List UInt8) := if n.kind = 1 ∧ n.tries ≠ 1 then [[116, 114, 105, 101, 115], Lib.itoa n.tries] else []
def NodeD.w3 (n : NodeD) : List (List UInt8) := if n.kind = 1 ∧ n.delay ≠ 0 then [[116, 105, 109, 101, 111, 117, 116], Lib.itoa n.delay] else []
def NodeD.w4 (n : NodeD) : List (List UInt8) := if n.after = [] then [] else [97, 102, 116, 101, 114] :: n.after
def NodeD.words (n : NodeD) : List (List UInt8) := [n.name, kindS n.kind] ++ n.w1 ++ n.w2 ++ n.w3 ++ n.w4
def NodeD.line (n : NodeD) : List UInt8 := Lib.join n.words [32] ++ [10]
/-- Where the walk stands: the node, the words so far. -/
def MS (n : NodeD) (ws : List (List UInt8)) (ρ : Rho) (L : List Blk) : Prop := ρ 1 = .ptr 0 0 0 ∧ ∃ (J : List Blk) (s : Nat), L = .cells 7 [n.row] :: J ∧ J[s]? = some (.cells 1 (strRows ws)) ∧ ρ 4 = .sl (s + 1) 0 ws.length ws.length
theorem rowsC_str (l : List (List UInt8)) : RowsC 1 (strRows l) := by
  intro row hr
  obtain ⟨s, _, rfl⟩ := List.mem_map.1 hr
  exact ⟨rfl, rfl⟩
theorem append_str {B0 : Blk} {J : List Blk} {s u : Nat} {ws xs : List (List UInt8)} {K : IV → List Blk → Prop} (hs : J[s]? = some (.cells 1 (strRows ws))) (hu : u = J.length + 1) (hx : xs ≠ []) (hb : (ws.length + xs.length) * 16 ≤ 70368744177664)
    (h : K (.sl (J.length + 1 + 1) 0 (ws.length + xs.length) (ws.length + xs.length)) (B0 :: ((J ++ [Blk.cells 1 (strRows xs)]).set s .dead ++ [.cells 1 (strRows (ws ++ xs))]))) :
    xop E (.append 1 16 (.c (.sl (s + 1) 0 ws.length ws.length)) (.c (.sl u 0 xs.length xs.length))) cev (B0 :: (J ++ [Blk.cells 1 (strRows xs)])) K := by
  subst hu
  show xappend 1 16 (.sl (s + 1) 0 ws.length ws.length) (.sl (J.length + 1) 0 xs.length xs.length) (B0 :: (J ++ [Blk.cells 1 (strRows xs)])) K
  unfold xappend
  have hr : rowsOf (B0 :: (J ++ [Blk.cells 1 (strRows xs)])) (.sl (J.length + 1) 0 xs.length xs.length) = some (strRows xs) := by
    simp [rowsOf, strRows_len]
    rw [List.take_of_length_le (by rw [strRows_len]; exact Nat.le_refl _)]
  rw [hr]
  refine ⟨rowsC_str xs, ?_⟩
  have hg : (B0 :: (J ++ [Blk.cells 1 (strRows xs)]))[s + 1]? = some (.cells 1 (strRows ws)) := by
    rw [List.getElem?_cons_succ, List.getElem?_append_left (lt_of_get hs)]; exact hs
  have hx0 : xs.length ≠ 0 := by simpa using hx
  simp only [hg]
  refine ⟨trivial, by rw [strRows_len]; omega, ?_⟩
  rw [if_neg (by rw [strRows_len]; omega)]
  refine ⟨by rw [strRows_len]; exact hb, ?_⟩
  have e1 : ((strRows ws).drop 0).take ws.length ++ strRows xs = strRows (ws ++ xs) := by
    rw [List.drop_zero, List.take_of_length_le (by rw [strRows_len]; exact Nat.le_refl _)]; simp [strRows]
  rw [e1, strRows_len]
  simpa using h
theorem append_isl {B0 : Blk} {J : List Blk} {s : Nat} {ws xs : List (List UInt8)} {K : IV → List Blk → Prop} (hs : J[s]? = some (.cells 1 (strRows ws))) (hx : xs ≠ []) (hb : (ws.length + xs.length) * 16 ≤ 70368744177664)
    (h : K (.sl (J.length + 1) 0 (ws.length + xs.length) (ws.length + xs.length)) (B0 :: (J.set s .dead ++ [.cells 1 (strRows (ws ++ xs))]))) :
    xop E (.append 1 16 (.c (.sl (s + 1) 0 ws.length ws.length)) (.c (.isl (strRows xs)))) cev (B0 :: J) K := by
  show xappend 1 16 (.sl (s + 1) 0 ws.length ws.length) (.isl (strRows xs)) (B0 :: J) K
  unfold xappend
  have hr : rowsOf (B0 :: J) (.isl (strRows xs)) = some (strRows xs) := rfl
  rw [hr]
  refine ⟨rowsC_str xs, ?_⟩
  have hg : (B0 :: J)[s + 1]? = some (.cells 1 (strRows ws)) := by
    rw [List.getElem?_cons_succ]; exact hs
  have hx0 : xs.length ≠ 0 := by simpa using hx
  simp only [hg]
  refine ⟨trivial, by rw [strRows_len]; omega, ?_⟩
  rw [if_neg (by rw [strRows_len]; omega)]
  refine ⟨by rw [strRows_len]; exact hb, ?_⟩
  have e1 : ((strRows ws).drop 0).take ws.length ++ strRows xs = strRows (ws ++ xs) := by
    rw [List.drop_zero, List.take_of_length_le (by rw [strRows_len]; exact Nat.le_refl _)]; simp [strRows]
  rw [e1, strRows_len]
  simpa using h
theorem said_pure (hP : E.P = Tryz.prog) (ht : ∀ w, E.G w → Lib.TabIs Tryz.prog w "internal/strconv.uint64pow10" .u64 Lib.pow10Tab) (n : NodeD) (hk : 1 ≤ n.kind ∧ n.kind ≤ 5)
    (hde : 0 ≤ n.delay ∧ n.delay ≤ 1000000) (htr : 0 ≤ n.tries ∧ n.tries ≤ 1000000) (haf : n.after.length ≤ 1000000) (hlen : (Lib.join n.words [32]).length ≤ 1000000000) :
    XPure E 14 [.agg n.row] (.str n.line) := by
  refine xpure1 (n := Tryz.f14.ntmps) (c := y14) (t := 2) (by rw [hP]; rfl) (by rw [hP]; kernel_rfl) (by decide) (Nat.le_of_ble_eq_true rfl) ?_
  generalize hρ : entry _ = ρ
  have h0 : ρ 0 = .agg [.str n.name, .int .i64 n.kind, .str n.arg, .str n.to, .int .i64 n.delay, .int .i64 n.tries, .isl (strRows n.after)] := by rw [← hρ]; rfl
  clear hρ
  unfold y14
  simp only [h0, go_sem, Nat.reduceEqDiff, reduceIte, Int.reduceEq, Int.reduceLT, Int.reduceLE, Nat.reduceAdd, Nat.reduceLT, Nat.reduceLeDiff, Int.reduceToNat, Int.reduceSub, Int.reduceAdd, Int.reduceNeg]
  have hkv : [IV.str [], IV.str [97, 99, 116, 105, 118, 105, 116, 121], IV.str [116, 105, 109, 101, 114], IV.str [99, 104, 105, 108, 100], IV.str [119, 97, 105, 116], IV.str [115, 101, 110, 100]].getD (n.kind.toNat * 1) IV.und = .str (kindS n.kind) := by
    obtain ⟨k, hkk⟩ : ∃ k, n.kind = k := ⟨_, rfl⟩
    rw [hkk] at hk ⊢
    have : k = 1 ∨ k = 2 ∨ k = 3 ∨ k = 4 ∨ k = 5 := by omega
    rcases this with rfl | rfl | rfl | rfl | rfl <;> rfl
  refine ⟨by omega, by omega, by omega, ?_⟩
  rw [hkv]
  simp only [h0, go_sem, Nat.reduceEqDiff, reduceIte, Int.reduceEq, Int.reduceLT, Int.reduceLE, Nat.reduceAdd, Nat.reduceLT, Nat.reduceLeDiff, Int.reduceToNat, Int.reduceSub, Int.reduceAdd, Int.reduceNeg]
  refine xcut_norm (MS n ([n.name, kindS n.kind] ++ n.w1)) ?_ (fun ρ L h => ?_)
  · unfold y14d
    simp only [h0, go_sem, Nat.reduceEqDiff, reduceIte, Int.reduceEq, Int.reduceLT, Int.reduceLE, Nat.reduceAdd, Nat.reduceLT, Nat.reduceLeDiff, Int.reduceToNat, Int.reduceSub, Int.reduceAdd, Int.reduceNeg]
    refine s_cond (b := decide (n.kind = 2)) (by simp only [go_sem, Nat.reduceEqDiff, reduceIte, Int.reduceEq, Int.reduceLT, Int.reduceLE, Nat.reduceAdd, Nat.reduceLT, Nat.reduceLeDiff, Int.reduceToNat, Int.reduceSub, Int.reduceAdd, Int.reduceNeg]; try rfl) ?_ ?_ <;> intro hc <;> simp only [go_sem, Nat.reduceEqDiff, reduceIte, Int.reduceEq, Int.reduceLT, Int.reduceLE, Nat.reduceAdd, Nat.reduceLT, Nat.reduceLeDiff, Int.reduceToNat, Int.reduceSub, Int.reduceAdd, Int.reduceNeg]
    · rw [decide_eq_true_eq] at hc
      refine xcall_pure (args' := [.int .i64 n.delay]) rfl (itoa_pure (E := E.noPan) hP ht _ (by omega) (by omega)) rfl ?_
      simp only [go_sem, Nat.reduceEqDiff, reduceIte, Int.reduceEq, Int.reduceLT, Int.reduceLE, Nat.reduceAdd, Nat.reduceLT, Nat.reduceLeDiff, Int.reduceToNat, Int.reduceSub, Int.reduceAdd, Int.reduceNeg]
      refine append_str (J := [_, Blk.cells 1 (strRows [n.name, kindS n.kind])]) (s := 1) (ws := [n.name, kindS n.kind]) (xs := [Lib.itoa n.delay]) rfl rfl (by simp) (by simp) ?_
      simp only [go_sem, Nat.reduceEqDiff, reduceIte, Int.reduceEq, Int.reduceLT, Int.reduceLE, Nat.reduceAdd, Nat.reduceLT, Nat.reduceLeDiff, Int.reduceToNat, Int.reduceSub, Int.reduceAdd, Int.reduceNeg]
      have hw : n.w1 = [Lib.itoa n.delay] := by unfold NodeD.w1; rw [if_pos hc]
      rw [hw]
      exact ⟨by simp only [go_sem, Nat.reduceEqDiff, reduceIte, Int.reduceEq, Int.reduceLT, Int.reduceLE, Nat.reduceAdd, Nat.reduceLT, Nat.reduceLeDiff, Int.reduceToNat, Int.reduceSub, Int.reduceAdd, Int.reduceNeg], _, 3, rfl, rfl, by simp only [go_sem, Nat.reduceEqDiff, reduceIte, Int.reduceEq, Int.reduceLT, Int.reduceLE, Nat.reduceAdd, Nat.reduceLT, Nat.reduceLeDiff, Int.reduceToNat, Int.reduceSub, Int.reduceAdd, Int.reduceNeg]; try rfl⟩
    · rw [decide_eq_false_iff_not] at hc
      refine s_cond (b := decide (n.kind = 5)) (by simp only [go_sem, Nat.reduceEqDiff, reduceIte, Int.reduceEq, Int.reduceLT, Int.reduceLE, Nat.reduceAdd, Nat.reduceLT, Nat.reduceLeDiff, Int.reduceToNat, Int.reduceSub, Int.reduceAdd, Int.reduceNeg]; try rfl) ?_ ?_ <;> intro hc5 <;> simp only [go_sem, Nat.reduceEqDiff, reduceIte, Int.reduceEq, Int.reduceLT, Int.reduceLE, Nat.reduceAdd, Nat.reduceLT, Nat.reduceLeDiff, Int.reduceToNat, Int.reduceSub, Int.reduceAdd, Int.reduceNeg]
      · rw [decide_eq_true_eq] at hc5
        refine append_str (J := [_, Blk.cells 1 (strRows [n.name, kindS n.kind])]) (s := 1) (ws := [n.name, kindS n.kind]) (xs := [n.to, n.arg]) rfl rfl (by simp) (by simp) ?_
        simp only [go_sem, Nat.reduceEqDiff, reduceIte, Int.reduceEq, Int.reduceLT, Int.reduceLE, Nat.reduceAdd, Nat.reduceLT, Nat.reduceLeDiff, Int.reduceToNat, Int.reduceSub, Int.reduceAdd, Int.reduceNeg]
        have hw : n.w1 = [n.to, n.arg] := by unfold NodeD.w1; rw [if_neg hc, if_pos hc5]
        rw [hw]
        exact ⟨by simp only [go_sem, Nat.reduceEqDiff, reduceIte, Int.reduceEq, Int.reduceLT, Int.reduceLE, Nat.reduceAdd, Nat.reduceLT, Nat.reduceLeDiff, Int.reduceToNat, Int.reduceSub, Int.reduceAdd, Int.reduceNeg], _, 3, rfl, rfl, by simp only [go_sem, Nat.reduceEqDiff, reduceIte, Int.reduceEq, Int.reduceLT, Int.reduceLE, Nat.reduceAdd, Nat.reduceLT, Nat.reduceLeDiff, Int.reduceToNat, Int.reduceSub, Int.reduceAdd, Int.reduceNeg]; try rfl⟩
      · rw [decide_eq_false_iff_not] at hc5
        refine append_str (J := [_, Blk.cells 1 (strRows [n.name, kindS n.kind])]) (s := 1) (ws := [n.name, kindS n.kind]) (xs := [n.arg]) rfl rfl (by simp) (by simp) ?_
        simp only [go_sem, Nat.reduceEqDiff, reduceIte, Int.reduceEq, Int.reduceLT, Int.reduceLE, Nat.reduceAdd, Nat.reduceLT, Nat.reduceLeDiff, Int.reduceToNat, Int.reduceSub, Int.reduceAdd, Int.reduceNeg]
        have hw : n.w1 = [n.arg] := by unfold NodeD.w1; rw [if_neg hc, if_neg hc5]
        rw [hw]
        exact ⟨by simp only [go_sem, Nat.reduceEqDiff, reduceIte, Int.reduceEq, Int.reduceLT, Int.reduceLE, Nat.reduceAdd, Nat.reduceLT, Nat.reduceLeDiff, Int.reduceToNat, Int.reduceSub, Int.reduceAdd, Int.reduceNeg], _, 3, rfl, rfl, by simp only [go_sem, Nat.reduceEqDiff, reduceIte, Int.reduceEq, Int.reduceLT, Int.reduceLE, Nat.reduceAdd, Nat.reduceLT, Nat.reduceLeDiff, Int.reduceToNat, Int.reduceSub, Int.reduceAdd, Int.reduceNeg]; try rfl⟩
  clear h0
  generalize hws : [n.name, kindS n.kind] ++ n.w1 = ws at *
  have hws0 : ws.length ≤ 4 := by
    rw [← hws]; unfold NodeD.w1; split
    · simp
    · split <;> simp
  simp only [go_sem, Nat.reduceEqDiff, reduceIte, Int.reduceEq, Int.reduceLT, Int.reduceLE, Nat.reduceAdd, Nat.reduceLT, Nat.reduceLeDiff, Int.reduceToNat, Int.reduceSub, Int.reduceAdd, Int.reduceNeg]
  refine xcut_norm (MS n (ws ++ n.w2)) ?_ (fun ρ L h => ?_)
  · obtain ⟨h1, J, s, rfl, hs, h4⟩ := h
    unfold y14e
    simp only [h1, h4, NodeD.row, go_sem, Nat.reduceEqDiff, reduceIte, Int.reduceEq, Int.reduceLT, Int.reduceLE, Nat.reduceAdd, Nat.reduceLT, Nat.reduceLeDiff, Int.reduceToNat, Int.reduceSub, Int.reduceAdd, Int.reduceNeg]
    refine s_mg (by simp only [h1, h4, go_sem, Nat.reduceEqDiff, reduceIte, Int.reduceEq, Int.reduceLT, Int.reduceLE, Nat.reduceAdd, Nat.reduceLT, Nat.reduceLeDiff, Int.reduceToNat, Int.reduceSub, Int.reduceAdd, Int.reduceNeg]; try rfl) ?_; simp only [cut_g, cut_t, cut_none, cut_out, memN_cons, memN_nil, Nat.reduceEqDiff, reduceIte, List.nil_append, List.cons_append, not_false_eq_true]; refine ex_merge rfl (by simp only [h1, h4, go_sem, Nat.reduceEqDiff, reduceIte, Int.reduceEq, Int.reduceLT, Int.reduceLE, Nat.reduceAdd, Nat.reduceLT, Nat.reduceLeDiff, Int.reduceToNat, Int.reduceSub, Int.reduceAdd, Int.reduceNeg]) (by intro hb; simp only [hb, h1, h4, go_sem, Nat.reduceEqDiff, reduceIte, Int.reduceEq, Int.reduceLT, Int.reduceLE, Nat.reduceAdd, Nat.reduceLT, Nat.reduceLeDiff, Int.reduceToNat, Int.reduceSub, Int.reduceAdd, Int.reduceNeg]; first | exact rfl | exact ⟨rfl, rfl⟩) (fun vs => ?_); simp only [h1, h4, go_sem, Nat.reduceEqDiff, reduceIte, Int.reduceEq, Int.reduceLT, Int.reduceLE, Nat.reduceAdd, Nat.reduceLT, Nat.reduceLeDiff, Int.reduceToNat, Int.reduceSub, Int.reduceAdd, Int.reduceNeg]
    refine s_cond (b := decide (n.kind = 1) && !decide (n.tries = 1)) (by simp only [go_sem, Nat.reduceEqDiff, reduceIte, Int.reduceEq, Int.reduceLT, Int.reduceLE, Nat.reduceAdd, Nat.reduceLT, Nat.reduceLeDiff, Int.reduceToNat, Int.reduceSub, Int.reduceAdd, Int.reduceNeg]; try rfl) ?_ ?_ <;> intro hc <;> simp only [h1, h4, go_sem, Nat.reduceEqDiff, reduceIte, Int.reduceEq, Int.reduceLT, Int.reduceLE, Nat.reduceAdd, Nat.reduceLT, Nat.reduceLeDiff, Int.reduceToNat, Int.reduceSub, Int.reduceAdd, Int.reduceNeg]
    · have hc' : n.kind = 1 ∧ n.tries ≠ 1 := by simpa using hc
      refine xcall_pure (args' := [.int .i64 n.tries]) rfl (itoa_pure (E := E.noPan) hP ht _ (by omega) (by omega)) rfl ?_
      simp only [h1, h4, go_sem, Nat.reduceEqDiff, reduceIte, Int.reduceEq, Int.reduceLT, Int.reduceLE, Nat.reduceAdd, Nat.reduceLT, Nat.reduceLeDiff, Int.reduceToNat, Int.reduceSub, Int.reduceAdd, Int.reduceNeg]
      refine append_str (J := J) (s := s) (ws := ws) (xs := [[116, 114, 105, 101, 115], Lib.itoa n.tries]) hs rfl (by simp) (by simp; omega) ?_
      simp only [h1, h4, go_sem, Nat.reduceEqDiff, reduceIte, Int.reduceEq, Int.reduceLT, Int.reduceLE, Nat.reduceAdd, Nat.reduceLT, Nat.reduceLeDiff, Int.reduceToNat, Int.reduceSub, Int.reduceAdd, Int.reduceNeg]
      have hw : n.w2 = [[116, 114, 105, 101, 115], Lib.itoa n.tries] := by unfold NodeD.w2; rw [if_pos hc']
      rw [hw]
      refine ⟨by simp only [h1, h4, go_sem, Nat.reduceEqDiff, reduceIte, Int.reduceEq, Int.reduceLT, Int.reduceLE, Nat.reduceAdd, Nat.reduceLT, Nat.reduceLeDiff, Int.reduceToNat, Int.reduceSub, Int.reduceAdd, Int.reduceNeg], _, J.length + 1, rfl, ?_, ?_⟩
      · rw [List.getElem?_append_right (by simp)]; simp
      · simp only [go_sem, Nat.reduceEqDiff, reduceIte, Int.reduceEq, Int.reduceLT, Int.reduceLE, Nat.reduceAdd, Nat.reduceLT, Nat.reduceLeDiff, Int.reduceToNat, Int.reduceSub, Int.reduceAdd, Int.reduceNeg]; try simp
    · have hc' : ¬ (n.kind = 1 ∧ n.tries ≠ 1) := by simpa using hc
      have hw : n.w2 = [] := by unfold NodeD.w2; rw [if_neg hc']
      rw [hw, List.append_nil]
      exact ⟨by simp only [h1, h4, go_sem, Nat.reduceEqDiff, reduceIte, Int.reduceEq, Int.reduceLT, Int.reduceLE, Nat.reduceAdd, Nat.reduceLT, Nat.reduceLeDiff, Int.reduceToNat, Int.reduceSub, Int.reduceAdd, Int.reduceNeg], J, s, rfl, hs, by simp only [h1, h4, go_sem, Nat.reduceEqDiff, reduceIte, Int.reduceEq, Int.reduceLT, Int.reduceLE, Nat.reduceAdd, Nat.reduceLT, Nat.reduceLeDiff, Int.reduceToNat, Int.reduceSub, Int.reduceAdd, Int.reduceNeg]⟩
  generalize hws2 : ws ++ n.w2 = ws2 at *
  have hws20 : ws2.length ≤ 6 := by
    rw [← hws2, List.length_append]
    have : n.w2.length ≤ 2 := by unfold NodeD.w2; split <;> simp
    omega
  simp only [go_sem, Nat.reduceEqDiff, reduceIte, Int.reduceEq, Int.reduceLT, Int.reduceLE, Nat.reduceAdd, Nat.reduceLT, Nat.reduceLeDiff, Int.reduceToNat, Int.reduceSub, Int.reduceAdd, Int.reduceNeg]
  refine xcut_norm (MS n (ws2 ++ n.w3)) ?_ (fun ρ L h => ?_)
  · obtain ⟨h1, J, s, rfl, hs, h4⟩ := h
    unfold y14f
    simp only [h1, h4, NodeD.row, go_sem, Nat.reduceEqDiff, reduceIte, Int.reduceEq, Int.reduceLT, Int.reduceLE, Nat.reduceAdd, Nat.reduceLT, Nat.reduceLeDiff, Int.reduceToNat, Int.reduceSub, Int.reduceAdd, Int.reduceNeg]
    refine s_mg (by simp only [h1, h4, go_sem, Nat.reduceEqDiff, reduceIte, Int.reduceEq, Int.reduceLT, Int.reduceLE, Nat.reduceAdd, Nat.reduceLT, Nat.reduceLeDiff, Int.reduceToNat, Int.reduceSub, Int.reduceAdd, Int.reduceNeg]; try rfl) ?_; simp only [cut_g, cut_t, cut_none, cut_out, memN_cons, memN_nil, Nat.reduceEqDiff, reduceIte, List.nil_append, List.cons_append, not_false_eq_true]; refine ex_merge rfl (by simp only [h1, h4, go_sem, Nat.reduceEqDiff, reduceIte, Int.reduceEq, Int.reduceLT, Int.reduceLE, Nat.reduceAdd, Nat.reduceLT, Nat.reduceLeDiff, Int.reduceToNat, Int.reduceSub, Int.reduceAdd, Int.reduceNeg]) (by intro hb; simp only [hb, h1, h4, go_sem, Nat.reduceEqDiff, reduceIte, Int.reduceEq, Int.reduceLT, Int.reduceLE, Nat.reduceAdd, Nat.reduceLT, Nat.reduceLeDiff, Int.reduceToNat, Int.reduceSub, Int.reduceAdd, Int.reduceNeg]; first | exact rfl | exact ⟨rfl, rfl⟩) (fun vs => ?_); simp only [h1, h4, go_sem, Nat.reduceEqDiff, reduceIte, Int.reduceEq, Int.reduceLT, Int.reduceLE, Nat.reduceAdd, Nat.reduceLT, Nat.reduceLeDiff, Int.reduceToNat, Int.reduceSub, Int.reduceAdd, Int.reduceNeg]
    refine s_cond (b := decide (n.kind = 1) && !decide (n.delay = 0)) (by simp only [go_sem, Nat.reduceEqDiff, reduceIte, Int.reduceEq, Int.reduceLT, Int.reduceLE, Nat.reduceAdd, Nat.reduceLT, Nat.reduceLeDiff, Int.reduceToNat, Int.reduceSub, Int.reduceAdd, Int.reduceNeg]; try rfl) ?_ ?_ <;> intro hc <;> simp only [h1, h4, go_sem, Nat.reduceEqDiff, reduceIte, Int.reduceEq, Int.reduceLT, Int.reduceLE, Nat.reduceAdd, Nat.reduceLT, Nat.reduceLeDiff, Int.reduceToNat, Int.reduceSub, Int.reduceAdd, Int.reduceNeg]
    · have hc' : n.kind = 1 ∧ n.delay ≠ 0 := by simpa using hc
      refine xcall_pure (args' := [.int .i64 n.delay]) rfl (itoa_pure (E := E.noPan) hP ht _ (by omega) (by omega)) rfl ?_
      simp only [h1, h4, go_sem, Nat.reduceEqDiff, reduceIte, Int.reduceEq, Int.reduceLT, Int.reduceLE, Nat.reduceAdd, Nat.reduceLT, Nat.reduceLeDiff, Int.reduceToNat, Int.reduceSub, Int.reduceAdd, Int.reduceNeg]
      refine append_str (J := J) (s := s) (ws := ws2) (xs := [[116, 105, 109, 101, 111, 117, 116], Lib.itoa n.delay]) hs rfl (by simp) (by simp; omega) ?_
      simp only [h1, h4, go_sem, Nat.reduceEqDiff, reduceIte, Int.reduceEq, Int.reduceLT, Int.reduceLE, Nat.reduceAdd, Nat.reduceLT, Nat.reduceLeDiff, Int.reduceToNat, Int.reduceSub, Int.reduceAdd, Int.reduceNeg]
      have hw : n.w3 = [[116, 105, 109, 101, 111, 117, 116], Lib.itoa n.delay] := by unfold NodeD.w3; rw [if_pos hc']
      rw [hw]
      refine ⟨by simp only [h1, h4, go_sem, Nat.reduceEqDiff, reduceIte, Int.reduceEq, Int.reduceLT, Int.reduceLE, Nat.reduceAdd, Nat.reduceLT, Nat.reduceLeDiff, Int.reduceToNat, Int.reduceSub, Int.reduceAdd, Int.reduceNeg], _, J.length + 1, rfl, ?_, ?_⟩
      · rw [List.getElem?_append_right (by simp)]; simp
      · simp only [go_sem, Nat.reduceEqDiff, reduceIte, Int.reduceEq, Int.reduceLT, Int.reduceLE, Nat.reduceAdd, Nat.reduceLT, Nat.reduceLeDiff, Int.reduceToNat, Int.reduceSub, Int.reduceAdd, Int.reduceNeg]; try simp
    · have hc' : ¬ (n.kind = 1 ∧ n.delay ≠ 0) := by simpa using hc
      have hw : n.w3 = [] := by unfold NodeD.w3; rw [if_neg hc']
      rw [hw, List.append_nil]
      exact ⟨by simp only [h1, h4, go_sem, Nat.reduceEqDiff, reduceIte, Int.reduceEq, Int.reduceLT, Int.reduceLE, Nat.reduceAdd, Nat.reduceLT, Nat.reduceLeDiff, Int.reduceToNat, Int.reduceSub, Int.reduceAdd, Int.reduceNeg], J, s, rfl, hs, by simp only [h1, h4, go_sem, Nat.reduceEqDiff, reduceIte, Int.reduceEq, Int.reduceLT, Int.reduceLE, Nat.reduceAdd, Nat.reduceLT, Nat.reduceLeDiff, Int.reduceToNat, Int.reduceSub, Int.reduceAdd, Int.reduceNeg]⟩
  generalize hws3 : ws2 ++ n.w3 = ws3 at *
  have hws30 : ws3.length ≤ 8 := by
    rw [← hws3, List.length_append]
    have : n.w3.length ≤ 2 := by unfold NodeD.w3; split <;> simp
    omega
  simp only [go_sem, Nat.reduceEqDiff, reduceIte, Int.reduceEq, Int.reduceLT, Int.reduceLE, Nat.reduceAdd, Nat.reduceLT, Nat.reduceLeDiff, Int.reduceToNat, Int.reduceSub, Int.reduceAdd, Int.reduceNeg]
  refine xcut_norm (MS n (ws3 ++ n.w4)) ?_ (fun ρ L h => ?_)
  · obtain ⟨h1, J, s, rfl, hs, h4⟩ := h
    unfold y14g
    simp only [h1, h4, NodeD.row, strRows_len, go_sem, Nat.reduceEqDiff, reduceIte, Int.reduceEq, Int.reduceLT, Int.reduceLE, Nat.reduceAdd, Nat.reduceLT, Nat.reduceLeDiff, Int.reduceToNat, Int.reduceSub, Int.reduceAdd, Int.reduceNeg]
    refine s_cond (b := decide (0 < (n.after.length : Int))) (by simp only [go_sem, Nat.reduceEqDiff, reduceIte, Int.reduceEq, Int.reduceLT, Int.reduceLE, Nat.reduceAdd, Nat.reduceLT, Nat.reduceLeDiff, Int.reduceToNat, Int.reduceSub, Int.reduceAdd, Int.reduceNeg]; try rfl) ?_ ?_ <;> intro hc <;> simp only [h1, h4, go_sem, Nat.reduceEqDiff, reduceIte, Int.reduceEq, Int.reduceLT, Int.reduceLE, Nat.reduceAdd, Nat.reduceLT, Nat.reduceLeDiff, Int.reduceToNat, Int.reduceSub, Int.reduceAdd, Int.reduceNeg]
    · rw [decide_eq_true_eq] at hc
      have hne : n.after ≠ [] := fun h0 => by rw [h0] at hc; simp at hc
      have hw : n.w4 = [97, 102, 116, 101, 114] :: n.after := by unfold NodeD.w4; rw [if_neg hne]
      rw [hw]
      refine append_str (J := J) (s := s) (ws := ws3) (xs := [[97, 102, 116, 101, 114]]) hs rfl (by simp) (by simp; omega) ?_
      simp only [h1, h4, go_sem, Nat.reduceEqDiff, reduceIte, Int.reduceEq, Int.reduceLT, Int.reduceLE, Nat.reduceAdd, Nat.reduceLT, Nat.reduceLeDiff, Int.reduceToNat, Int.reduceSub, Int.reduceAdd, Int.reduceNeg]
      refine ⟨⟨by rw [if_neg (by simp)]; simp [sepL, ninP], by rw [if_neg (by simp)]; simp [sepL, ninP]⟩, ?_⟩
      have e : ws3.length + 1 = (ws3 ++ [[97, 102, 116, 101, 114]]).length := by simp
      rw [e]
      refine append_isl (s := J.length + 1) (ws := ws3 ++ [[97, 102, 116, 101, 114]]) (xs := n.after) ?_ hne (by simp; omega) ?_
      · rw [List.getElem?_append_right (by simp)]; simp
      simp only [h1, h4, go_sem, Nat.reduceEqDiff, reduceIte, Int.reduceEq, Int.reduceLT, Int.reduceLE, Nat.reduceAdd, Nat.reduceLT, Nat.reduceLeDiff, Int.reduceToNat, Int.reduceSub, Int.reduceAdd, Int.reduceNeg]
      refine ⟨by simp only [h1, h4, go_sem, Nat.reduceEqDiff, reduceIte, Int.reduceEq, Int.reduceLT, Int.reduceLE, Nat.reduceAdd, Nat.reduceLT, Nat.reduceLeDiff, Int.reduceToNat, Int.reduceSub, Int.reduceAdd, Int.reduceNeg], _, J.length + 2, rfl, ?_, ?_⟩
      · rw [List.getElem?_append_right (by simp)]; simp
      · simp only [go_sem, Nat.reduceEqDiff, reduceIte, Int.reduceEq, Int.reduceLT, Int.reduceLE, Nat.reduceAdd, Nat.reduceLT, Nat.reduceLeDiff, Int.reduceToNat, Int.reduceSub, Int.reduceAdd, Int.reduceNeg]; simp; omega
    · rw [decide_eq_false_iff_not] at hc
      have hne : n.after = [] := List.eq_nil_of_length_eq_zero (by omega)
      have hw : n.w4 = [] := by unfold NodeD.w4; rw [if_pos hne]
      rw [hw, List.append_nil]
      exact ⟨by simp only [h1, h4, go_sem, Nat.reduceEqDiff, reduceIte, Int.reduceEq, Int.reduceLT, Int.reduceLE, Nat.reduceAdd, Nat.reduceLT, Nat.reduceLeDiff, Int.reduceToNat, Int.reduceSub, Int.reduceAdd, Int.reduceNeg], J, s, rfl, hs, by simp only [h1, h4, go_sem, Nat.reduceEqDiff, reduceIte, Int.reduceEq, Int.reduceLT, Int.reduceLE, Nat.reduceAdd, Nat.reduceLT, Nat.reduceLeDiff, Int.reduceToNat, Int.reduceSub, Int.reduceAdd, Int.reduceNeg]⟩
  obtain ⟨h1, J, s, rfl, hs, h4⟩ := h
  simp only [h1, h4, go_sem, Nat.reduceEqDiff, reduceIte, Int.reduceEq, Int.reduceLT, Int.reduceLE, Nat.reduceAdd, Nat.reduceLT, Nat.reduceLeDiff, Int.reduceToNat, Int.reduceSub, Int.reduceAdd, Int.reduceNeg]
  have hw : ws3 ++ n.w4 = n.words := by rw [← hws3, ← hws2, ← hws]; rfl
  rw [hw] at hs ⊢
  have hwl : n.words.length ≤ 2000000 := by
    rw [← hw, List.length_append]
    have : n.w4.length ≤ 1 + n.after.length := by unfold NodeD.w4; split <;> simp; omega
    omega
  refine xcall_lend (args' := [.isl (strRows n.words), .str [32]]) (mapO_cons (conv_sl_free (rows := strRows n.words) rfl (by rw [List.getElem?_cons_succ]; exact hs) (by rw [strRows_len]; omega) ?_) (mapO_cons rfl rfl))
    (join_pure (E := E.noPan) hP n.words [32] (by omega) (by omega)) rfl rfl ?_
  · rw [List.drop_zero, List.take_of_length_le (by rw [strRows_len]; exact Nat.le_refl _)]
    exact mapO_strs _ _ _ _
  simp only [h1, h4, go_sem, Nat.reduceEqDiff, reduceIte, Int.reduceEq, Int.reduceLT, Int.reduceLE, Nat.reduceAdd, Nat.reduceLT, Nat.reduceLeDiff, Int.reduceToNat, Int.reduceSub, Int.reduceAdd, Int.reduceNeg]
  refine ⟨by have := hlen; first | omega | (simp; omega), ?_⟩
  show some (IV.str _) = _
  rfl
end
end Go.X.TryzW
end
