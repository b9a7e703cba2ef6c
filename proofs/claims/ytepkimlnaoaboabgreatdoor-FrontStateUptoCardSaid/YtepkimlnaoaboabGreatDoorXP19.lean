/- Parts of the proof: XgfLib, Xgfmade, Xgffirst, Xgffield, Xgfis, Xgffail, Xgfblanks, Xgfnumber, Xgfhelp, Xgfescape. -/
import Derived.Test.YtepkimlnaoaboabGreatDoorXP18
import Derived.Lib.AtoiErrMem
import Derived.Lib.SpaceU
set_option linter.unusedVariables false
set_option linter.unusedSimpArgs false
set_option linter.unusedSectionVars false
section
/- Contracts of Go's library over the front seat, as XPure: Trim, IndexByte, CutPrefix, Cut, HasPrefix, EqualFold, Atoi, Split, DecodeRuneInString. -/
namespace Go.X.TryzW
open Go Go.X Go.Proofs Go.RowKit
set_option maxRecDepth 100000
section
variable {E : Env}
theorem one1 {C : Ctx} {x : IV} {vs : List Value} (hl : [x].length = vs.length) (hv : ∀ (i : Nat) (z : IV), [x][i]? = some z → VR C z (vs.getD i undef)) : ∃ a, vs = [a] ∧ VR C x a := by
  match vs, hl with
  | [a], _ => exact ⟨a, rfl, hv 0 x rfl⟩
theorem bodied (hP : E.P = Tryz.prog) {f : Nat} {fn : Func} (h : Tryz.prog.funcs[f]? = some fn) (h1 : fn.name ≠ "runtime.NumGoroutine") (h2 : fn.body.isNone = false) : Bodied E.P f := ⟨fn, by rw [hP]; exact h, h1, h2⟩
theorem below_draws (w : World) (n : Nat) : Below w.heap.size w (w.drewN n) := ⟨rfl, rfl, rfl, Nat.le_refl _, fun _ _ => rfl⟩
theorem vr_tup2 {C : Ctx} {x y : IV} {u v : Value} (h1 : VR C x u) (h2 : VR C y v) : VR C (.tup [x, y]) (.tuple #[u, v]) := by
  refine .tup _ [u, v] rfl fun i z hi => ?_
  match i, hi with
  | 0, hi => cases hi; exact h1
  | 1, hi => cases hi; exact h2
theorem vr_tup3 {C : Ctx} {x y z : IV} {u v w : Value} (h1 : VR C x u) (h2 : VR C y v) (h3 : VR C z w) : VR C (.tup [x, y, z]) (.tuple #[u, v, w]) := by
  refine .tup _ [u, v, w] rfl fun i s hi => ?_
  match i, hi with
  | 0, hi => cases hi; exact h1
  | 1, hi => cases hi; exact h2
  | 2, hi => cases hi; exact h3

theorem trim_pure (hP : E.P = Tryz.prog) (s : List UInt8) (c : UInt8) (hc : c.toNat < 128) (hs : s.length ≤ 9223372036854775807) : XPure E 69 [.str s, .str [c]] (.str (Lib.trimB s c)) := by
  refine xpure_below (bodied hP Tryz.func69 (by decide) (by rfl)) fun C vs _ hG _ _ hl hv => ?_
  obtain ⟨a, b, rfl, h1, h2⟩ := two hl hv
  cases h1; cases h2
  rw [hP]
  refine (Tryz.strings_Trim_one ⟨s.toArray⟩ c hc C.w (by simpa [ByteArray.size] using hs)).mono fun e w' ⟨he, hw⟩ => ?_
  refine ⟨_, he, ?_, .str _⟩
  rcases hw with rfl | rfl
  · exact Below.refl _ _
  · exact (Below.refl _ _).drew
theorem indexByte_pure (hP : E.P = Tryz.prog) (s : List UInt8) (c : UInt8) : XPure E 41 [.str s, .int .u8 c.toNat] (.int .i64 (Lib.indexByte s c)) := by
  refine xpure_below (bodied hP Tryz.func41 (by decide) (by rfl)) fun C vs _ hG _ _ hl hv => ?_
  obtain ⟨a, b, rfl, h1, h2⟩ := two hl hv
  cases h1; cases h2
  rw [hP]
  refine (Tryz.strings_IndexByte ⟨s.toArray⟩ (c.toNat : Int) C.w).mono fun e w' ⟨he, hw⟩ => ?_
  subst hw
  refine ⟨_, he, Below.refl _ _, ?_⟩
  have : (c.toNat : Int).toNat.toUInt8 = c := by simp
  rw [this]
  exact .int _ _
theorem cutPrefix_pure (hP : E.P = Tryz.prog) (s p : List UInt8) : XPure E 53 [.str s, .str p] (.tup [.str (Lib.trimPrefix s p), .bool (Lib.hasPrefix s p)]) := by
  refine xpure_below (bodied hP Tryz.func53 (by decide) (by rfl)) fun C vs _ hG _ _ hl hv => ?_
  obtain ⟨a, b, rfl, h1, h2⟩ := two hl hv
  cases h1; cases h2
  rw [hP]
  refine (Tryz.strings_CutPrefix ⟨s.toArray⟩ ⟨p.toArray⟩ C.w).mono fun e w' ⟨he, hw⟩ => ?_
  subst hw
  exact ⟨_, he, Below.refl _ _, vr_tup2 (.str _) (.bool _)⟩
theorem hasPrefix_pure (hP : E.P = Tryz.prog) (s p : List UInt8) : XPure E 60 [.str s, .str p] (.bool (Lib.hasPrefix s p)) := by
  refine xpure_below (bodied hP Tryz.func60 (by decide) (by rfl)) fun C vs _ hG _ _ hl hv => ?_
  obtain ⟨a, b, rfl, h1, h2⟩ := two hl hv
  cases h1; cases h2
  rw [hP]
  refine (Tryz.strings_HasPrefix ⟨s.toArray⟩ ⟨p.toArray⟩ C.w).mono fun e w' ⟨he, hw⟩ => ?_
  subst hw
  exact ⟨_, he, Below.refl _ _, .bool _⟩
theorem cut_pure (hP : E.P = Tryz.prog) {m : Int} (hm : E.gl 2 = some [.int .i64 m]) (s p : List UInt8) (hs : s.length < 4294967281) : XPure E 27 [.str s, .str p] (.tup [.str (Lib.cut s p).1, .str (Lib.cut s p).2.1, .bool (Lib.cut s p).2.2]) := by
  refine xpure_below (bodied hP Tryz.func27 (by decide) (by rfl)) fun C vs _ hG _ _ hl hv => ?_
  obtain ⟨a, b, rfl, h1, h2⟩ := two hl hv
  cases h1; cases h2
  obtain ⟨u, hu1, hu2⟩ := E.hgl C.w 2 _ hG hm 0 _ rfl
  have hu3 := hu2 C
  cases hu3
  rw [hP]
  refine (Tryz.strings_Cut ⟨s.toArray⟩ ⟨p.toArray⟩ m C.w (by simpa [ByteArray.size] using hs) hu1).mono fun e w' ⟨he, n, hw⟩ => ?_
  subst hw
  exact ⟨_, he, below_draws _ _, vr_tup3 (.str _) (.str _) (.bool _)⟩
theorem equalFold_pure (hP : E.P = Tryz.prog) (s t : List UInt8) (hs : s.length < 4294967281) (h1 : ∀ b ∈ s, b.toNat < 128) (h2 : ∀ b ∈ t, b.toNat < 128) : XPure E 68 [.str s, .str t] (.bool (Lib.equalFold s t)) := by
  refine xpure_below (bodied hP Tryz.func68 (by decide) (by rfl)) fun C vs _ hG _ _ hl hv => ?_
  obtain ⟨a, b, rfl, g1, g2⟩ := two hl hv
  cases g1; cases g2
  rw [hP]
  refine (Tryz.strings_EqualFold ⟨s.toArray⟩ ⟨t.toArray⟩ C.w (by simpa [ByteArray.size] using hs) (fun j b hb => h1 b (List.mem_of_getElem? (by simpa using hb))) (fun j b hb => h2 b (List.mem_of_getElem? (by simpa using hb)))).mono fun e w' ⟨he, hw⟩ => ?_
  subst hw
  exact ⟨_, he, Below.refl _ _, .bool _⟩
theorem atoi_pure (hP : E.P = Tryz.prog) (s : List UInt8) (n : Int) (hl : s.length ≤ 18) (h : Lib.atoi s = some n) : XPure E 71 [.str s] (.tup [.int .i64 n, .raw .nilIface]) := by
  refine xpure_below (bodied hP Tryz.func71 (by decide) (by rfl)) fun C vs _ hG _ _ hl' hv => ?_
  obtain ⟨a, rfl, h2⟩ := one1 hl' hv
  cases h2
  rw [hP]
  refine (Tryz.strconv_Atoi ⟨s.toArray⟩ n (by simpa [ByteArray.size] using hl) (by simpa using h) C.w).mono fun e w' ⟨he, t, hw⟩ => ?_
  subst hw
  exact ⟨_, he, Lib.bytesWorld_below _ _ _, vr_tup2 (.int _ _) (.raw _ rfl)⟩
theorem decode_pure (hP : E.P = Tryz.prog) (ht : ∀ w, E.G w → Lib.Utf8Tabs 0 1 w) (s : List UInt8) (h0 : s ≠ []) : XPure E 21 [.str s] (.tup [.int .i32 (Lib.decodeL s).1, .int .i64 (Lib.decodeL s).2]) := by
  refine xpure_below (bodied hP Tryz.func21 (by decide) (by rfl)) fun C vs _ hG _ _ hl' hv => ?_
  obtain ⟨a, rfl, h2⟩ := one1 hl' hv
  cases h2
  rw [hP]
  refine (Tryz.utf8_DecodeRuneInString ⟨s.toArray⟩ C.w (ht _ hG)).mono fun e w' ⟨he, hw⟩ => ?_
  have hd : Lib.decodeGo ⟨s.toArray⟩ = Lib.decodeL s := by
    unfold Lib.decodeGo Lib.decodeL
    rw [if_neg]
    simpa [ByteArray.size] using h0
  rw [hd] at he
  exact ⟨_, he, hw, vr_tup2 (.int _ _) (.int _ _)⟩
/-- The pieces. -/
def splitL (sep s : List UInt8) : List (List UInt8) := (Lib.splitB ⟨sep.toArray⟩ 0 (Lib.countB ⟨s.toArray⟩ ⟨sep.toArray⟩) ⟨s.toArray⟩).map (·.data.toList)
theorem split_pure (hP : E.P = Tryz.prog) {m : Int} (hm : E.gl 2 = some [.int .i64 m]) (s sep : List UInt8) (hs : s.length < 4294967281) (h1 : 1 ≤ sep.length) : XPure E 46 [.str s, .str sep] (.isl (sRows (splitL sep s))) := by
  refine xpure_below (bodied hP Tryz.func46 (by decide) (by rfl)) fun C vs _ hG _ hown hl hv => ?_
  obtain ⟨a, b, rfl, h1', h2⟩ := two hl hv
  cases h1'; cases h2
  obtain ⟨u, hu1, hu2⟩ := E.hgl C.w 2 _ hG hm 0 _ rfl
  have hu3 := hu2 C
  cases hu3
  rw [hP]
  refine (Tryz.strings_Split ⟨s.toArray⟩ ⟨sep.toArray⟩ m C.w (by simpa [ByteArray.size] using hs) hu1 (by simpa [ByteArray.size] using h1)).mono fun e w' ⟨he, hw⟩ => ?_
  have hn : (splitL sep s).length = Lib.countB ⟨s.toArray⟩ ⟨sep.toArray⟩ + 1 := by
    unfold splitL
    rw [List.length_map]
    exact Lib.splitB_all _ (by simpa [ByteArray.size] using h1) 0 _ _ rfl
  subst hw
  refine ⟨_, he, (Below.refl _ _).alloc (Nat.le_refl _) _, ?_⟩
  rw [← hn]
  refine vr_sRows (Nat.le_refl _) (by simp) (fun ho => ?_) fun i t hi => ?_
  · rcases ho with ho | ⟨q, k, hk, _⟩
    · exact absurd (hown _ (.inl ho)) (Nat.lt_irrefl _)
    · simp at hk
  · unfold splitL at hi
    rw [List.getElem?_map, Option.map_eq_some_iff] at hi
    obtain ⟨p, hp, rfl⟩ := hi
    rw [Nat.zero_add]
    simp [World.cell?, World.alloc, -World.alloc_eq, hp]
end
end Go.X.TryzW
end
section
open Go Go.X Go.Proofs
set_option maxRecDepth 100000
set_option maxHeartbeats 4000000
set_option linter.unusedSimpArgs false
set_option linter.unusedVariables false
namespace Go.X.TryzW
/- "tiller/front.digit" params { toList := [5] } results { toList := [Go.ResultVar.tmp 2] } -/
def y61 : XC :=
 (.seq
  (.ops [
    ⟨(some 2), (.mov (.c (.bool false))), none⟩])
  (.seq
   (.ops [
     ⟨(some 3), (.mov (.t 0)), none⟩,
     ⟨(some 4), (.bin .geq (.t 3) (.c (.int .u8 48))), none⟩,
     ⟨(some 5), (.mov (.t 4)), none⟩,
     ⟨(some 6), (.mov (.t 0)), (some (5, true))⟩,
     ⟨(some 7), (.bin .leq (.t 6) (.c (.int .u8 57))), (some (5, true))⟩,
     ⟨(some 8), (.pick (.t 5) (.t 7) (.c (.bool false))), none⟩,
     ⟨(some 2), (.mov (.t 8)), none⟩])
   .ret))

/- "tiller/front.letter" params { toList := [5] } results { toList := [Go.ResultVar.tmp 2] } -/
def y60 : XC :=
 (.seq
  (.ops [
    ⟨(some 2), (.mov (.c (.bool false))), none⟩])
  (.seq
   (.ops [
     ⟨(some 3), (.mov (.t 0)), none⟩,
     ⟨(some 4), (.bin .geq (.t 3) (.c (.int .u8 97))), none⟩,
     ⟨(some 5), (.mov (.t 4)), none⟩,
     ⟨(some 6), (.mov (.t 0)), (some (5, true))⟩,
     ⟨(some 7), (.bin .leq (.t 6) (.c (.int .u8 122))), (some (5, true))⟩,
     ⟨(some 8), (.pick (.t 5) (.t 7) (.c (.bool false))), none⟩,
     ⟨(some 9), (.mov (.t 8)), none⟩,
     ⟨(some 10), (.mov (.t 0)), (some (9, false))⟩,
     ⟨(some 11), (.bin .geq (.t 10) (.c (.int .u8 65))), (some (9, false))⟩,
     ⟨(some 12), (.mov (.t 11)), (some (9, false))⟩,
     ⟨(some 13), (.mov (.t 0)), (some (12, true))⟩,
     ⟨(some 14), (.bin .leq (.t 13) (.c (.int .u8 90))), (some (12, true))⟩,
     ⟨(some 15), (.pick (.t 12) (.t 14) (.c (.bool false))), (some (9, false))⟩,
     ⟨(some 16), (.pick (.t 9) (.c (.bool true)) (.t 15)), none⟩,
     ⟨(some 2), (.mov (.t 16)), none⟩])
   .ret))

/- "tiller/front.seen" params { toList := [5] } results { toList := [Go.ResultVar.tmp 2] } -/
def y57 : XC :=
 (.seq
  (.ops [
    ⟨(some 2), (.mov (.c (.bool false))), none⟩])
  (.seq
   (.ops [
     ⟨(some 3), (.mov (.t 0)), none⟩,
     ⟨(some 4), (.bin .geq (.t 3) (.c (.int .u8 33))), none⟩,
     ⟨(some 5), (.mov (.t 4)), none⟩,
     ⟨(some 6), (.mov (.t 0)), (some (5, true))⟩,
     ⟨(some 7), (.bin .leq (.t 6) (.c (.int .u8 126))), (some (5, true))⟩,
     ⟨(some 8), (.pick (.t 5) (.t 7) (.c (.bool false))), none⟩,
     ⟨(some 2), (.mov (.t 8)), none⟩])
   .ret))

/- "tiller/front.first$1" params { toList := [5] } results { toList := [Go.ResultVar.tmp 2] } -/
def y58 : XC :=
 (.seq
  (.ops [
    ⟨(some 2), (.mov (.c (.bool false))), none⟩])
  (.seq
   (.ops [
     ⟨(some 3), (.mov (.t 0)), none⟩,
     ⟨(some 4), (.bin .geq (.t 3) (.c (.int .u8 65))), none⟩,
     ⟨(some 5), (.mov (.t 4)), none⟩,
     ⟨(some 6), (.mov (.t 0)), (some (5, true))⟩,
     ⟨(some 7), (.bin .leq (.t 6) (.c (.int .u8 90))), (some (5, true))⟩,
     ⟨(some 8), (.pick (.t 5) (.t 7) (.c (.bool false))), none⟩,
     ⟨(some 2), (.mov (.t 8)), none⟩])
   .ret))

/- "tiller/front.length$1" params { toList := [5] } results { toList := [Go.ResultVar.tmp 2] } -/
def y59 : XC :=
 (.seq
  (.ops [
    ⟨(some 2), (.mov (.c (.bool false))), none⟩])
  (.seq
   (.ops [
     ⟨(some 3), (.mov (.t 0)), none⟩,
     ⟨(some 4), (.call (.f 65) [(.t 3)]), none⟩,
     ⟨(some 5), (.mov (.t 4)), none⟩,
     ⟨(some 6), (.mov (.t 0)), (some (5, false))⟩,
     ⟨(some 7), (.call (.f 66) [(.t 6)]), (some (5, false))⟩,
     ⟨(some 8), (.pick (.t 5) (.c (.bool true)) (.t 7)), none⟩,
     ⟨(some 9), (.mov (.t 8)), none⟩,
     ⟨(some 10), (.mov (.t 0)), (some (9, false))⟩,
     ⟨(some 11), (.bin .eql (.t 10) (.c (.int .u8 45))), (some (9, false))⟩,
     ⟨(some 12), (.pick (.t 9) (.c (.bool true)) (.t 11)), none⟩,
     ⟨(some 2), (.mov (.t 12)), none⟩])
   .ret))

/- "tiller/front.length$2" params { toList := [5] } results { toList := [Go.ResultVar.tmp 2] } -/
def y62 : XC :=
 (.seq
  (.ops [
    ⟨(some 2), (.mov (.c (.bool false))), none⟩])
  (.seq
   (.ops [
     ⟨(some 3), (.mov (.t 0)), none⟩,
     ⟨(some 4), (.bin .eql (.t 3) (.c (.int .u8 32))), none⟩,
     ⟨(some 5), (.mov (.t 4)), none⟩,
     ⟨(some 6), (.mov (.t 0)), (some (5, false))⟩,
     ⟨(some 7), (.call (.f 62) [(.t 6)]), (some (5, false))⟩,
     ⟨(some 8), (.pick (.t 5) (.c (.bool true)) (.t 7)), none⟩,
     ⟨(some 2), (.mov (.t 8)), none⟩])
   .ret))

/- "tiller/front.made" params { toList := [9, 72] } results { toList := [Go.ResultVar.tmp 4] } -/
def y56 : XC :=
 (.seq
  (.ops [
    ⟨(some 4), (.mov (.c (.bool false))), none⟩])
  (.seq
   (.seq
    (.ops [
      ⟨(some 6), (.mov (.t 0)), none⟩,
      ⟨(some 7), (.lenS (.t 6)), none⟩,
      ⟨(some 8), (.mov (.c (.int .i64 0))), none⟩])
    (.block 0
     (.loop
      (.seq
       (.ops [
         ⟨(some 9), (.bin .lss (.t 8) (.t 7)), none⟩])
       (.seq
        (.cond (.t 9)
         .skip
         (.exit 0))
        (.seq
         (.block 1
          (.seq
           (.ops [
             ⟨(some 10), (.mov (.t 8)), none⟩,
             ⟨(some 5), (.mov (.t 10)), none⟩])
           (.seq
            (.ops [
              ⟨(some 11), (.mov (.t 1)), none⟩,
              ⟨(some 12), (.mov (.t 0)), none⟩,
              ⟨(some 13), (.mov (.t 5)), none⟩,
              ⟨(some 14), (.idx (.t 12) (.t 13)), none⟩,
              ⟨(some 15), (.call (.t 11) [(.t 14)]), none⟩,
              ⟨(some 16), (.un .not (.t 15)), none⟩])
            (.cond (.t 16)
             (.seq
              (.ops [
                ⟨(some 4), (.mov (.c (.bool false))), none⟩])
              .ret)
             .skip))))
         (.ops [
           ⟨(some 17), (.bin .add (.t 8) (.c (.int .i64 1))), none⟩,
           ⟨(some 8), (.mov (.t 17)), none⟩])))))))
   (.seq
    (.ops [
      ⟨(some 18), (.mov (.t 0)), none⟩,
      ⟨(some 19), (.bin .neq (.t 18) (.c (.str []))), none⟩,
      ⟨(some 4), (.mov (.t 19)), none⟩])
    .ret)))

section
variable {E : Env}
def digitF (b : UInt8) : Bool := decide (48 ≤ (b.toNat : Int)) && decide ((b.toNat : Int) ≤ 57)
def letterF (b : UInt8) : Bool := (decide (97 ≤ (b.toNat : Int)) && decide ((b.toNat : Int) ≤ 122)) || (decide (65 ≤ (b.toNat : Int)) && decide ((b.toNat : Int) ≤ 90))
def seenF (b : UInt8) : Bool := decide (33 ≤ (b.toNat : Int)) && decide ((b.toNat : Int) ≤ 126)
def upF (b : UInt8) : Bool := decide (65 ≤ (b.toNat : Int)) && decide ((b.toNat : Int) ≤ 90)
def nameF (b : UInt8) : Bool := (letterF b || digitF b) || decide ((b.toNat : Int) = 45)
def valueF (b : UInt8) : Bool := decide ((b.toNat : Int) = 32) || seenF b
theorem digit_pure (hP : E.P = Tryz.prog) (b : UInt8) : XPure E 66 [.int .u8 b.toNat] (.bool (digitF b)) := by
  refine xpure1 (n := Tryz.f66.ntmps) (c := y61) (t := 2) (by rw [hP]; rfl) (by rw [hP]; kernel_rfl) (by decide) (Nat.le_of_ble_eq_true rfl) ?_
  generalize hρ : entry _ = ρ
  have h0 : ρ 0 = .int .u8 b.toNat := by rw [← hρ]; rfl
  clear hρ
  unfold y61
  simp only [h0, go_sem, Nat.reduceEqDiff, reduceIte, Int.reduceEq, Int.reduceLT, Int.reduceLE, Nat.reduceAdd, Nat.reduceLT, Nat.reduceLeDiff, Int.reduceToNat, Int.reduceSub, Int.reduceAdd, Int.reduceNeg]
  refine s_mg (by simp only [h0, go_sem, Nat.reduceEqDiff, reduceIte, Int.reduceEq, Int.reduceLT, Int.reduceLE, Nat.reduceAdd, Nat.reduceLT, Nat.reduceLeDiff, Int.reduceToNat, Int.reduceSub, Int.reduceAdd, Int.reduceNeg]; try rfl) ?_; simp only [cut_g, cut_t, cut_none, cut_out, memN_cons, memN_nil, Nat.reduceEqDiff, reduceIte, List.nil_append, List.cons_append, not_false_eq_true]; refine ex_merge rfl (by simp only [h0, go_sem, Nat.reduceEqDiff, reduceIte, Int.reduceEq, Int.reduceLT, Int.reduceLE, Nat.reduceAdd, Nat.reduceLT, Nat.reduceLeDiff, Int.reduceToNat, Int.reduceSub, Int.reduceAdd, Int.reduceNeg]) (by intro hb; simp only [hb, h0, go_sem, Nat.reduceEqDiff, reduceIte, Int.reduceEq, Int.reduceLT, Int.reduceLE, Nat.reduceAdd, Nat.reduceLT, Nat.reduceLeDiff, Int.reduceToNat, Int.reduceSub, Int.reduceAdd, Int.reduceNeg]; first | exact rfl | exact ⟨rfl, rfl⟩) (fun vs => ?_); simp only [h0, go_sem, Nat.reduceEqDiff, reduceIte, Int.reduceEq, Int.reduceLT, Int.reduceLE, Nat.reduceAdd, Nat.reduceLT, Nat.reduceLeDiff, Int.reduceToNat, Int.reduceSub, Int.reduceAdd, Int.reduceNeg]
  rfl
theorem seen_pure (hP : E.P = Tryz.prog) (b : UInt8) : XPure E 62 [.int .u8 b.toNat] (.bool (seenF b)) := by
  refine xpure1 (n := Tryz.f62.ntmps) (c := y57) (t := 2) (by rw [hP]; rfl) (by rw [hP]; kernel_rfl) (by decide) (Nat.le_of_ble_eq_true rfl) ?_
  generalize hρ : entry _ = ρ
  have h0 : ρ 0 = .int .u8 b.toNat := by rw [← hρ]; rfl
  clear hρ
  unfold y57
  simp only [h0, go_sem, Nat.reduceEqDiff, reduceIte, Int.reduceEq, Int.reduceLT, Int.reduceLE, Nat.reduceAdd, Nat.reduceLT, Nat.reduceLeDiff, Int.reduceToNat, Int.reduceSub, Int.reduceAdd, Int.reduceNeg]
  refine s_mg (by simp only [h0, go_sem, Nat.reduceEqDiff, reduceIte, Int.reduceEq, Int.reduceLT, Int.reduceLE, Nat.reduceAdd, Nat.reduceLT, Nat.reduceLeDiff, Int.reduceToNat, Int.reduceSub, Int.reduceAdd, Int.reduceNeg]; try rfl) ?_; simp only [cut_g, cut_t, cut_none, cut_out, memN_cons, memN_nil, Nat.reduceEqDiff, reduceIte, List.nil_append, List.cons_append, not_false_eq_true]; refine ex_merge rfl (by simp only [h0, go_sem, Nat.reduceEqDiff, reduceIte, Int.reduceEq, Int.reduceLT, Int.reduceLE, Nat.reduceAdd, Nat.reduceLT, Nat.reduceLeDiff, Int.reduceToNat, Int.reduceSub, Int.reduceAdd, Int.reduceNeg]) (by intro hb; simp only [hb, h0, go_sem, Nat.reduceEqDiff, reduceIte, Int.reduceEq, Int.reduceLT, Int.reduceLE, Nat.reduceAdd, Nat.reduceLT, Nat.reduceLeDiff, Int.reduceToNat, Int.reduceSub, Int.reduceAdd, Int.reduceNeg]; first | exact rfl | exact ⟨rfl, rfl⟩) (fun vs => ?_); simp only [h0, go_sem, Nat.reduceEqDiff, reduceIte, Int.reduceEq, Int.reduceLT, Int.reduceLE, Nat.reduceAdd, Nat.reduceLT, Nat.reduceLeDiff, Int.reduceToNat, Int.reduceSub, Int.reduceAdd, Int.reduceNeg]
  rfl
theorem up_pure (hP : E.P = Tryz.prog) (b : UInt8) : XPure E 63 [.int .u8 b.toNat] (.bool (upF b)) := by
  refine xpure1 (n := Tryz.f63.ntmps) (c := y58) (t := 2) (by rw [hP]; rfl) (by rw [hP]; kernel_rfl) (by decide) (Nat.le_of_ble_eq_true rfl) ?_
  generalize hρ : entry _ = ρ
  have h0 : ρ 0 = .int .u8 b.toNat := by rw [← hρ]; rfl
  clear hρ
  unfold y58
  simp only [h0, go_sem, Nat.reduceEqDiff, reduceIte, Int.reduceEq, Int.reduceLT, Int.reduceLE, Nat.reduceAdd, Nat.reduceLT, Nat.reduceLeDiff, Int.reduceToNat, Int.reduceSub, Int.reduceAdd, Int.reduceNeg]
  refine s_mg (by simp only [h0, go_sem, Nat.reduceEqDiff, reduceIte, Int.reduceEq, Int.reduceLT, Int.reduceLE, Nat.reduceAdd, Nat.reduceLT, Nat.reduceLeDiff, Int.reduceToNat, Int.reduceSub, Int.reduceAdd, Int.reduceNeg]; try rfl) ?_; simp only [cut_g, cut_t, cut_none, cut_out, memN_cons, memN_nil, Nat.reduceEqDiff, reduceIte, List.nil_append, List.cons_append, not_false_eq_true]; refine ex_merge rfl (by simp only [h0, go_sem, Nat.reduceEqDiff, reduceIte, Int.reduceEq, Int.reduceLT, Int.reduceLE, Nat.reduceAdd, Nat.reduceLT, Nat.reduceLeDiff, Int.reduceToNat, Int.reduceSub, Int.reduceAdd, Int.reduceNeg]) (by intro hb; simp only [hb, h0, go_sem, Nat.reduceEqDiff, reduceIte, Int.reduceEq, Int.reduceLT, Int.reduceLE, Nat.reduceAdd, Nat.reduceLT, Nat.reduceLeDiff, Int.reduceToNat, Int.reduceSub, Int.reduceAdd, Int.reduceNeg]; first | exact rfl | exact ⟨rfl, rfl⟩) (fun vs => ?_); simp only [h0, go_sem, Nat.reduceEqDiff, reduceIte, Int.reduceEq, Int.reduceLT, Int.reduceLE, Nat.reduceAdd, Nat.reduceLT, Nat.reduceLeDiff, Int.reduceToNat, Int.reduceSub, Int.reduceAdd, Int.reduceNeg]
  rfl
theorem letter_pure (hP : E.P = Tryz.prog) (b : UInt8) : XPure E 65 [.int .u8 b.toNat] (.bool (letterF b)) := by
  refine xpure1 (n := Tryz.f65.ntmps) (c := y60) (t := 2) (by rw [hP]; rfl) (by rw [hP]; kernel_rfl) (by decide) (Nat.le_of_ble_eq_true rfl) ?_
  generalize hρ : entry _ = ρ
  have h0 : ρ 0 = .int .u8 b.toNat := by rw [← hρ]; rfl
  clear hρ
  unfold y60
  simp only [h0, go_sem, Nat.reduceEqDiff, reduceIte, Int.reduceEq, Int.reduceLT, Int.reduceLE, Nat.reduceAdd, Nat.reduceLT, Nat.reduceLeDiff, Int.reduceToNat, Int.reduceSub, Int.reduceAdd, Int.reduceNeg]
  refine s_mg (by simp only [h0, go_sem, Nat.reduceEqDiff, reduceIte, Int.reduceEq, Int.reduceLT, Int.reduceLE, Nat.reduceAdd, Nat.reduceLT, Nat.reduceLeDiff, Int.reduceToNat, Int.reduceSub, Int.reduceAdd, Int.reduceNeg]; try rfl) ?_; simp only [cut_g, cut_t, cut_none, cut_out, memN_cons, memN_nil, Nat.reduceEqDiff, reduceIte, List.nil_append, List.cons_append, not_false_eq_true]; refine ex_merge rfl (by simp only [h0, go_sem, Nat.reduceEqDiff, reduceIte, Int.reduceEq, Int.reduceLT, Int.reduceLE, Nat.reduceAdd, Nat.reduceLT, Nat.reduceLeDiff, Int.reduceToNat, Int.reduceSub, Int.reduceAdd, Int.reduceNeg]) (by intro hb; simp only [hb, h0, go_sem, Nat.reduceEqDiff, reduceIte, Int.reduceEq, Int.reduceLT, Int.reduceLE, Nat.reduceAdd, Nat.reduceLT, Nat.reduceLeDiff, Int.reduceToNat, Int.reduceSub, Int.reduceAdd, Int.reduceNeg]; first | exact rfl | exact ⟨rfl, rfl⟩) (fun vs => ?_); simp only [h0, go_sem, Nat.reduceEqDiff, reduceIte, Int.reduceEq, Int.reduceLT, Int.reduceLE, Nat.reduceAdd, Nat.reduceLT, Nat.reduceLeDiff, Int.reduceToNat, Int.reduceSub, Int.reduceAdd, Int.reduceNeg]
  refine s_mg (by simp only [h0, go_sem, Nat.reduceEqDiff, reduceIte, Int.reduceEq, Int.reduceLT, Int.reduceLE, Nat.reduceAdd, Nat.reduceLT, Nat.reduceLeDiff, Int.reduceToNat, Int.reduceSub, Int.reduceAdd, Int.reduceNeg]; try rfl) ?_; simp only [cut_g, cut_t, cut_none, cut_out, memN_cons, memN_nil, Nat.reduceEqDiff, reduceIte, List.nil_append, List.cons_append, not_false_eq_true]; refine ex_merge rfl (by simp only [h0, go_sem, Nat.reduceEqDiff, reduceIte, Int.reduceEq, Int.reduceLT, Int.reduceLE, Nat.reduceAdd, Nat.reduceLT, Nat.reduceLeDiff, Int.reduceToNat, Int.reduceSub, Int.reduceAdd, Int.reduceNeg]) (by intro hb; simp only [hb, h0, go_sem, Nat.reduceEqDiff, reduceIte, Int.reduceEq, Int.reduceLT, Int.reduceLE, Nat.reduceAdd, Nat.reduceLT, Nat.reduceLeDiff, Int.reduceToNat, Int.reduceSub, Int.reduceAdd, Int.reduceNeg]; (repeat (refine s_mg (by simp only [h0, go_sem, Nat.reduceEqDiff, reduceIte, Int.reduceEq, Int.reduceLT, Int.reduceLE, Nat.reduceAdd, Nat.reduceLT, Nat.reduceLeDiff, Int.reduceToNat, Int.reduceSub, Int.reduceAdd, Int.reduceNeg]; try rfl) ?_; simp only [cut_g, cut_t, cut_none, cut_out, memN_cons, memN_nil, Nat.reduceEqDiff, reduceIte, List.nil_append, List.cons_append, not_false_eq_true]; refine ex_merge rfl (by simp only [h0, go_sem, Nat.reduceEqDiff, reduceIte, Int.reduceEq, Int.reduceLT, Int.reduceLE, Nat.reduceAdd, Nat.reduceLT, Nat.reduceLeDiff, Int.reduceToNat, Int.reduceSub, Int.reduceAdd, Int.reduceNeg]) (by intro hb; simp only [hb, h0, go_sem, Nat.reduceEqDiff, reduceIte, Int.reduceEq, Int.reduceLT, Int.reduceLE, Nat.reduceAdd, Nat.reduceLT, Nat.reduceLeDiff, Int.reduceToNat, Int.reduceSub, Int.reduceAdd, Int.reduceNeg]; first | exact rfl | exact ⟨rfl, rfl⟩) (fun vs => ?_); simp only [h0, go_sem, Nat.reduceEqDiff, reduceIte, Int.reduceEq, Int.reduceLT, Int.reduceLE, Nat.reduceAdd, Nat.reduceLT, Nat.reduceLeDiff, Int.reduceToNat, Int.reduceSub, Int.reduceAdd, Int.reduceNeg])); first | exact rfl | exact ⟨rfl, rfl⟩) (fun vs => ?_); simp only [h0, go_sem, Nat.reduceEqDiff, reduceIte, Int.reduceEq, Int.reduceLT, Int.reduceLE, Nat.reduceAdd, Nat.reduceLT, Nat.reduceLeDiff, Int.reduceToNat, Int.reduceSub, Int.reduceAdd, Int.reduceNeg]
  rfl
theorem name_pure (hP : E.P = Tryz.prog) (b : UInt8) : XPure E 64 [.int .u8 b.toNat] (.bool (nameF b)) := by
  refine xpure1 (n := Tryz.f64.ntmps) (c := y59) (t := 2) (by rw [hP]; rfl) (by rw [hP]; kernel_rfl) (by decide) (Nat.le_of_ble_eq_true rfl) ?_
  generalize hρ : entry _ = ρ
  have h0 : ρ 0 = .int .u8 b.toNat := by rw [← hρ]; rfl
  clear hρ
  unfold y59
  simp only [h0, go_sem, Nat.reduceEqDiff, reduceIte, Int.reduceEq, Int.reduceLT, Int.reduceLE, Nat.reduceAdd, Nat.reduceLT, Nat.reduceLeDiff, Int.reduceToNat, Int.reduceSub, Int.reduceAdd, Int.reduceNeg]
  refine xcall_pure (args' := [.int .u8 b.toNat]) rfl (letter_pure (E := E.noPan) hP b) rfl ?_
  simp only [h0, go_sem, Nat.reduceEqDiff, reduceIte, Int.reduceEq, Int.reduceLT, Int.reduceLE, Nat.reduceAdd, Nat.reduceLT, Nat.reduceLeDiff, Int.reduceToNat, Int.reduceSub, Int.reduceAdd, Int.reduceNeg]
  refine s_mg (by simp only [h0, go_sem, Nat.reduceEqDiff, reduceIte, Int.reduceEq, Int.reduceLT, Int.reduceLE, Nat.reduceAdd, Nat.reduceLT, Nat.reduceLeDiff, Int.reduceToNat, Int.reduceSub, Int.reduceAdd, Int.reduceNeg]; try rfl) ?_; simp only [cut_g, cut_t, cut_none, cut_out, memN_cons, memN_nil, Nat.reduceEqDiff, reduceIte, List.nil_append, List.cons_append, not_false_eq_true]; refine ex_merge rfl (by simp only [h0, go_sem, Nat.reduceEqDiff, reduceIte, Int.reduceEq, Int.reduceLT, Int.reduceLE, Nat.reduceAdd, Nat.reduceLT, Nat.reduceLeDiff, Int.reduceToNat, Int.reduceSub, Int.reduceAdd, Int.reduceNeg]) (by intro hb; simp only [hb, h0, go_sem, Nat.reduceEqDiff, reduceIte, Int.reduceEq, Int.reduceLT, Int.reduceLE, Nat.reduceAdd, Nat.reduceLT, Nat.reduceLeDiff, Int.reduceToNat, Int.reduceSub, Int.reduceAdd, Int.reduceNeg]; refine xcall_pure (args' := [.int .u8 b.toNat]) rfl (digit_pure (E := E.noPan) hP b) rfl ?_; (try simp only [h0, go_sem, Nat.reduceEqDiff, reduceIte, Int.reduceEq, Int.reduceLT, Int.reduceLE, Nat.reduceAdd, Nat.reduceLT, Nat.reduceLeDiff, Int.reduceToNat, Int.reduceSub, Int.reduceAdd, Int.reduceNeg]); (try simp only [hb, h0, go_sem, Nat.reduceEqDiff, reduceIte, Int.reduceEq, Int.reduceLT, Int.reduceLE, Nat.reduceAdd, Nat.reduceLT, Nat.reduceLeDiff, Int.reduceToNat, Int.reduceSub, Int.reduceAdd, Int.reduceNeg]); first | exact rfl | exact ⟨rfl, rfl⟩) (fun vs => ?_); simp only [h0, go_sem, Nat.reduceEqDiff, reduceIte, Int.reduceEq, Int.reduceLT, Int.reduceLE, Nat.reduceAdd, Nat.reduceLT, Nat.reduceLeDiff, Int.reduceToNat, Int.reduceSub, Int.reduceAdd, Int.reduceNeg]
  refine s_mg (by simp only [h0, go_sem, Nat.reduceEqDiff, reduceIte, Int.reduceEq, Int.reduceLT, Int.reduceLE, Nat.reduceAdd, Nat.reduceLT, Nat.reduceLeDiff, Int.reduceToNat, Int.reduceSub, Int.reduceAdd, Int.reduceNeg]; try rfl) ?_; simp only [cut_g, cut_t, cut_none, cut_out, memN_cons, memN_nil, Nat.reduceEqDiff, reduceIte, List.nil_append, List.cons_append, not_false_eq_true]; refine ex_merge rfl (by simp only [h0, go_sem, Nat.reduceEqDiff, reduceIte, Int.reduceEq, Int.reduceLT, Int.reduceLE, Nat.reduceAdd, Nat.reduceLT, Nat.reduceLeDiff, Int.reduceToNat, Int.reduceSub, Int.reduceAdd, Int.reduceNeg]) (by intro hb; simp only [hb, h0, go_sem, Nat.reduceEqDiff, reduceIte, Int.reduceEq, Int.reduceLT, Int.reduceLE, Nat.reduceAdd, Nat.reduceLT, Nat.reduceLeDiff, Int.reduceToNat, Int.reduceSub, Int.reduceAdd, Int.reduceNeg]; first | exact rfl | exact ⟨rfl, rfl⟩) (fun vs => ?_); simp only [h0, go_sem, Nat.reduceEqDiff, reduceIte, Int.reduceEq, Int.reduceLT, Int.reduceLE, Nat.reduceAdd, Nat.reduceLT, Nat.reduceLeDiff, Int.reduceToNat, Int.reduceSub, Int.reduceAdd, Int.reduceNeg]
  rfl
theorem value_pure (hP : E.P = Tryz.prog) (b : UInt8) : XPure E 67 [.int .u8 b.toNat] (.bool (valueF b)) := by
  refine xpure1 (n := Tryz.f67.ntmps) (c := y62) (t := 2) (by rw [hP]; rfl) (by rw [hP]; kernel_rfl) (by decide) (Nat.le_of_ble_eq_true rfl) ?_
  generalize hρ : entry _ = ρ
  have h0 : ρ 0 = .int .u8 b.toNat := by rw [← hρ]; rfl
  clear hρ
  unfold y62
  simp only [h0, go_sem, Nat.reduceEqDiff, reduceIte, Int.reduceEq, Int.reduceLT, Int.reduceLE, Nat.reduceAdd, Nat.reduceLT, Nat.reduceLeDiff, Int.reduceToNat, Int.reduceSub, Int.reduceAdd, Int.reduceNeg]
  refine s_mg (by simp only [h0, go_sem, Nat.reduceEqDiff, reduceIte, Int.reduceEq, Int.reduceLT, Int.reduceLE, Nat.reduceAdd, Nat.reduceLT, Nat.reduceLeDiff, Int.reduceToNat, Int.reduceSub, Int.reduceAdd, Int.reduceNeg]; try rfl) ?_; simp only [cut_g, cut_t, cut_none, cut_out, memN_cons, memN_nil, Nat.reduceEqDiff, reduceIte, List.nil_append, List.cons_append, not_false_eq_true]; refine ex_merge rfl (by simp only [h0, go_sem, Nat.reduceEqDiff, reduceIte, Int.reduceEq, Int.reduceLT, Int.reduceLE, Nat.reduceAdd, Nat.reduceLT, Nat.reduceLeDiff, Int.reduceToNat, Int.reduceSub, Int.reduceAdd, Int.reduceNeg]) (by intro hb; simp only [hb, h0, go_sem, Nat.reduceEqDiff, reduceIte, Int.reduceEq, Int.reduceLT, Int.reduceLE, Nat.reduceAdd, Nat.reduceLT, Nat.reduceLeDiff, Int.reduceToNat, Int.reduceSub, Int.reduceAdd, Int.reduceNeg]; refine xcall_pure (args' := [.int .u8 b.toNat]) rfl (seen_pure (E := E.noPan) hP b) rfl ?_; (try simp only [h0, go_sem, Nat.reduceEqDiff, reduceIte, Int.reduceEq, Int.reduceLT, Int.reduceLE, Nat.reduceAdd, Nat.reduceLT, Nat.reduceLeDiff, Int.reduceToNat, Int.reduceSub, Int.reduceAdd, Int.reduceNeg]); (try simp only [hb, h0, go_sem, Nat.reduceEqDiff, reduceIte, Int.reduceEq, Int.reduceLT, Int.reduceLE, Nat.reduceAdd, Nat.reduceLT, Nat.reduceLeDiff, Int.reduceToNat, Int.reduceSub, Int.reduceAdd, Int.reduceNeg]); first | exact rfl | exact ⟨rfl, rfl⟩) (fun vs => ?_); simp only [h0, go_sem, Nat.reduceEqDiff, reduceIte, Int.reduceEq, Int.reduceLT, Int.reduceLE, Nat.reduceAdd, Nat.reduceLT, Nat.reduceLeDiff, Int.reduceToNat, Int.reduceSub, Int.reduceAdd, Int.reduceNeg]
  rfl
theorem made_pure (hP : E.P = Tryz.prog) (s : List UInt8) (hs : s.length ≤ 9223372036854775806) (f : FuncId) (p : UInt8 → Bool) (hf : ∀ b, XPure E.noPan f [.int .u8 (b : UInt8).toNat] (.bool (p b))) : XPure E 61 [.str s, .fn (.func f) [] []] (.bool (s.all p && !decide (s = []))) := by
  refine xpure1 (n := Tryz.f61.ntmps) (c := y56) (t := 4) (by rw [hP]; rfl) (by rw [hP]; kernel_rfl) (by decide) (Nat.le_of_ble_eq_true rfl) ?_
  generalize hρ : entry _ = ρ
  have h0 : ρ 0 = .str s := by rw [← hρ]; rfl
  have h1 : ρ 1 = .fn (.func f) [] [] := by rw [← hρ]; rfl
  clear hρ
  unfold y56
  simp only [h0, h1, go_sem, Nat.reduceEqDiff, reduceIte, Int.reduceEq, Int.reduceLT, Int.reduceLE, Nat.reduceAdd, Nat.reduceLT, Nat.reduceLeDiff, Int.reduceToNat, Int.reduceSub, Int.reduceAdd, Int.reduceNeg]
  refine s_loop (fun n ρ L => ∃ j : Nat, j ≤ s.length ∧ n = s.length - j ∧ L = [] ∧ ρ 0 = .str s ∧ ρ 1 = .fn (.func f) [] [] ∧ ρ 7 = .int .i64 s.length ∧ ρ 8 = .int .i64 j ∧ (s.take j).all p = true)
    ⟨0, Nat.zero_le _, rfl, rfl, by simp only [h0, go_sem, Nat.reduceEqDiff, reduceIte, Int.reduceEq, Int.reduceLT, Int.reduceLE, Nat.reduceAdd, Nat.reduceLT, Nat.reduceLeDiff, Int.reduceToNat, Int.reduceSub, Int.reduceAdd, Int.reduceNeg], by simp only [h1, go_sem, Nat.reduceEqDiff, reduceIte, Int.reduceEq, Int.reduceLT, Int.reduceLE, Nat.reduceAdd, Nat.reduceLT, Nat.reduceLeDiff, Int.reduceToNat, Int.reduceSub, Int.reduceAdd, Int.reduceNeg], by simp only [go_sem, Nat.reduceEqDiff, reduceIte, Int.reduceEq, Int.reduceLT, Int.reduceLE, Nat.reduceAdd, Nat.reduceLT, Nat.reduceLeDiff, Int.reduceToNat, Int.reduceSub, Int.reduceAdd, Int.reduceNeg], by simp only [go_sem, Nat.reduceEqDiff, reduceIte, Int.reduceEq, Int.reduceLT, Int.reduceLE, Nat.reduceAdd, Nat.reduceLT, Nat.reduceLeDiff, Int.reduceToNat, Int.reduceSub, Int.reduceAdd, Int.reduceNeg]; try rfl, rfl⟩ ?_
  clear h0 h1 ρ
  rintro n ρ L ⟨j, hj, rfl, rfl, h0, h1, h7, h8, hall⟩
  simp only [h0, h1, h7, h8, go_sem, Nat.reduceEqDiff, reduceIte, Int.reduceEq, Int.reduceLT, Int.reduceLE, Nat.reduceAdd, Nat.reduceLT, Nat.reduceLeDiff, Int.reduceToNat, Int.reduceSub, Int.reduceAdd, Int.reduceNeg]
  refine s_cond (b := decide _) (by simp only [h0, h1, h7, h8, go_sem, Nat.reduceEqDiff, reduceIte, Int.reduceEq, Int.reduceLT, Int.reduceLE, Nat.reduceAdd, Nat.reduceLT, Nat.reduceLeDiff, Int.reduceToNat, Int.reduceSub, Int.reduceAdd, Int.reduceNeg]; try rfl) ?_ ?_ <;> intro hb <;> simp only [hb, h0, h1, h7, h8, go_sem, Nat.reduceEqDiff, reduceIte, Int.reduceEq, Int.reduceLT, Int.reduceLE, Nat.reduceAdd, Nat.reduceLT, Nat.reduceLeDiff, Int.reduceToNat, Int.reduceSub, Int.reduceAdd, Int.reduceNeg]
  · rw [decide_eq_true_eq] at hb
    have hj' : j < s.length := by omega
    refine ⟨by omega, ?_⟩
    refine xcall_pure (args' := [.int .u8 (s.getD j 0).toNat]) rfl (hf _) rfl ?_
    simp only [h0, h1, h7, h8, go_sem, Nat.reduceEqDiff, reduceIte, Int.reduceEq, Int.reduceLT, Int.reduceLE, Nat.reduceAdd, Nat.reduceLT, Nat.reduceLeDiff, Int.reduceToNat, Int.reduceSub, Int.reduceAdd, Int.reduceNeg]
    refine s_cond (b := !p (s.getD j 0)) (by simp only [h0, h1, h7, h8, go_sem, Nat.reduceEqDiff, reduceIte, Int.reduceEq, Int.reduceLT, Int.reduceLE, Nat.reduceAdd, Nat.reduceLT, Nat.reduceLeDiff, Int.reduceToNat, Int.reduceSub, Int.reduceAdd, Int.reduceNeg]; try rfl) ?_ ?_ <;> intro hc <;> simp only [hc, h0, h1, h7, h8, go_sem, Nat.reduceEqDiff, reduceIte, Int.reduceEq, Int.reduceLT, Int.reduceLE, Nat.reduceAdd, Nat.reduceLT, Nat.reduceLeDiff, Int.reduceToNat, Int.reduceSub, Int.reduceAdd, Int.reduceNeg]
    · have hp : p (s.getD j 0) = false := by simpa using hc
      rw [List.all_eq_false.2 ⟨s.getD j 0, by rw [List.getD_eq_getElem?_getD, List.getElem?_eq_getElem hj']; exact List.getElem_mem _, by rw [hp]; simp⟩]
      rfl
    · have hp : p (s.getD j 0) = true := by simpa using hc
      refine ⟨s.length - (j + 1), by omega, j + 1, by omega, rfl, by rw [wrap64 (by omega) (by omega)]; rfl, ?_⟩
      rw [List.take_add_one, List.all_append, hall, List.getElem?_eq_getElem hj']
      rw [List.getD_eq_getElem?_getD, List.getElem?_eq_getElem hj'] at hp
      simpa using hp
  · rw [decide_eq_false_iff_not] at hb
    have hjl : j = s.length := by omega
    subst hjl
    rw [List.take_length] at hall
    rw [hall]; rfl
end
end Go.X.TryzW
end
section
open Go Go.X Go.Proofs
set_option maxRecDepth 100000
set_option maxHeartbeats 4000000
set_option linter.unusedSimpArgs false
set_option linter.unusedVariables false
namespace Go.X.TryzW
/- "tiller/front.whole" params { toList := [9, 3] } results { toList := [Go.ResultVar.tmp 4] } -/
def y65 : XC :=
 (.seq
  (.ops [
    ⟨(some 4), (.mov (.c (.bool false))), none⟩])
  (.seq
   (.ops [
     ⟨(some 5), (.mov (.t 0)), none⟩,
     ⟨(some 6), (.call (.f 61) [(.t 5), (.f 66)]), none⟩,
     ⟨(some 7), (.mov (.t 6)), none⟩,
     ⟨(some 8), (.mov (.t 0)), (some (7, true))⟩,
     ⟨(some 9), (.lenS (.t 8)), (some (7, true))⟩,
     ⟨(some 10), (.mov (.t 1)), (some (7, true))⟩,
     ⟨(some 11), (.bin .leq (.t 9) (.t 10)), (some (7, true))⟩,
     ⟨(some 12), (.pick (.t 7) (.t 11) (.c (.bool false))), none⟩,
     ⟨(some 13), (.mov (.t 12)), none⟩,
     ⟨(some 14), (.mov (.t 0)), (some (13, true))⟩,
     ⟨(some 15), (.lenS (.t 14)), (some (13, true))⟩,
     ⟨(some 16), (.bin .eql (.t 15) (.c (.int .i64 1))), (some (13, true))⟩,
     ⟨(some 17), (.mov (.t 16)), (some (13, true))⟩,
     ⟨(some 18), (.mov (.t 0)), (some (17, false))⟩,
     ⟨(some 19), (.idx (.t 18) (.c (.int .i64 0))), (some (17, false))⟩,
     ⟨(some 20), (.bin .neq (.t 19) (.c (.int .u8 48))), (some (17, false))⟩,
     ⟨(some 21), (.pick (.t 17) (.c (.bool true)) (.t 20)), (some (13, true))⟩,
     ⟨(some 22), (.pick (.t 13) (.t 21) (.c (.bool false))), none⟩,
     ⟨(some 4), (.mov (.t 22)), none⟩])
   .ret))

/- "tiller/front.first" params { toList := [9] } results { toList := [Go.ResultVar.tmp 2, Go.ResultVar.tmp 3, Go.ResultVar.tmp 4] } -/
def y27 : XC :=
 (.seq
  (.ops [
    ⟨(some 2), (.mov (.c (.str []))), none⟩,
    ⟨(some 3), (.mov (.c (.str []))), none⟩,
    ⟨(some 4), (.mov (.c (.bool false))), none⟩])
  (.seq
   (.ops [
     ⟨(some 10), (.mov (.t 0)), none⟩,
     ⟨(some 11), (.call (.f 27) [(.t 10), (.c (.str [32]))]), none⟩,
     ⟨(some 9), (.mov (.t 11)), none⟩,
     ⟨(some 12), (.ext (.t 9) 0), none⟩,
     ⟨(some 13), (.ext (.t 9) 1), none⟩,
     ⟨(some 14), (.ext (.t 9) 2), none⟩,
     ⟨(some 2), (.mov (.t 12)), none⟩,
     ⟨(some 5), (.mov (.t 13)), none⟩,
     ⟨(some 6), (.mov (.t 14)), none⟩])
   (.seq
    (.ops [
      ⟨(some 16), (.mov (.t 5)), none⟩,
      ⟨(some 17), (.call (.f 27) [(.t 16), (.c (.str [32]))]), none⟩,
      ⟨(some 15), (.mov (.t 17)), none⟩,
      ⟨(some 18), (.ext (.t 15) 0), none⟩,
      ⟨(some 19), (.ext (.t 15) 1), none⟩,
      ⟨(some 20), (.ext (.t 15) 2), none⟩,
      ⟨(some 3), (.mov (.t 18)), none⟩,
      ⟨(some 7), (.mov (.t 19)), none⟩,
      ⟨(some 8), (.mov (.t 20)), none⟩])
    (.seq
     (.ops [
       ⟨(some 21), (.mov (.t 6)), none⟩,
       ⟨(some 22), (.mov (.t 21)), none⟩,
       ⟨(some 23), (.mov (.t 8)), (some (22, true))⟩,
       ⟨(some 24), (.pick (.t 22) (.t 23) (.c (.bool false))), none⟩,
       ⟨(some 25), (.mov (.t 24)), none⟩,
       ⟨(some 26), (.mov (.t 7)), (some (25, true))⟩,
       ⟨(some 27), (.bin .eql (.t 26) (.c (.str [72, 84, 84, 80, 47, 49, 46, 49]))), (some (25, true))⟩,
       ⟨(some 28), (.pick (.t 25) (.t 27) (.c (.bool false))), none⟩,
       ⟨(some 29), (.mov (.t 28)), none⟩,
       ⟨(some 30), (.mov (.t 3)), (some (29, true))⟩,
       ⟨(some 31), (.call (.f 60) [(.t 30), (.c (.str [47]))]), (some (29, true))⟩,
       ⟨(some 32), (.pick (.t 29) (.t 31) (.c (.bool false))), none⟩,
       ⟨(some 33), (.mov (.t 32)), none⟩,
       ⟨(some 34), (.mov (.t 3)), (some (33, true))⟩,
       ⟨(some 35), (.call (.f 61) [(.t 34), (.f 62)]), (some (33, true))⟩,
       ⟨(some 36), (.pick (.t 33) (.t 35) (.c (.bool false))), none⟩,
       ⟨(some 37), (.mov (.t 36)), none⟩,
       ⟨(some 38), (.mov (.t 2)), (some (37, true))⟩,
       ⟨(some 39), (.call (.f 61) [(.t 38), (.f 63)]), (some (37, true))⟩,
       ⟨(some 40), (.pick (.t 37) (.t 39) (.c (.bool false))), none⟩,
       ⟨(some 4), (.mov (.t 40)), none⟩])
     (.seq
      (.ops [
        ⟨(some 41), (.mov (.t 2)), none⟩,
        ⟨(some 42), (.mov (.t 3)), none⟩,
        ⟨(some 43), (.mov (.t 4)), none⟩,
        ⟨(some 2), (.mov (.t 41)), none⟩,
        ⟨(some 3), (.mov (.t 42)), none⟩,
        ⟨(some 4), (.mov (.t 43)), none⟩])
      .ret)))))

section
variable {E : Env}
theorem xpure_t3 {f : FuncId} {fn : Func} {t t' t'' n : Nat} {c : XC} {args : List IV} {r : IV} (hf : E.P.funcs[f]? = some fn) (hF : compFn E.P fn = some ⟨n, [.tmp t, .tmp t', .tmp t''], c⟩) (hnm : fn.name ≠ "runtime.NumGoroutine")
    (hargs : args.length ≤ fn.ntmps) (h : xrun E.noPan c (entry args) [] (doneK fun ρ L' => conv L' fuel renFreeze (.tup [ρ t, ρ t', ρ t'']) = some r)) : XPure E f args r := by
  refine xpure_of_fun hf hF hnm hargs (xrun_mono _ (fun e ρ L h => ?_) h)
  cases e with
  | normal => exact ⟨Or.inr rfl, h⟩
  | ret => exact ⟨Or.inl rfl, h⟩
  | exit => exact h.elim
  | goto => exact h.elim
theorem xpure_t4 {f : FuncId} {fn : Func} {t t' t'' t4 n : Nat} {c : XC} {args : List IV} {r : IV} (hf : E.P.funcs[f]? = some fn) (hF : compFn E.P fn = some ⟨n, [.tmp t, .tmp t', .tmp t'', .tmp t4], c⟩) (hnm : fn.name ≠ "runtime.NumGoroutine")
    (hargs : args.length ≤ fn.ntmps) (h : xrun E.noPan c (entry args) [] (doneK fun ρ L' => conv L' fuel renFreeze (.tup [ρ t, ρ t', ρ t'', ρ t4]) = some r)) : XPure E f args r := by
  refine xpure_of_fun hf hF hnm hargs (xrun_mono _ (fun e ρ L h => ?_) h)
  cases e with
  | normal => exact ⟨Or.inr rfl, h⟩
  | ret => exact ⟨Or.inl rfl, h⟩
  | exit => exact h.elim
  | goto => exact h.elim
def madeF (p : UInt8 → Bool) (s : List UInt8) : Bool := s.all p && !decide (s = [])
def wholeF (s : List UInt8) (most : Int) : Bool := (madeF digitF s && decide ((s.length : Int) ≤ most)) && (decide ((s.length : Int) = 1) || !decide (((s.getD 0 0).toNat : Int) = 48))
theorem whole_pure (hP : E.P = Tryz.prog) (s : List UInt8) (most : Int) (hs : s.length ≤ 9223372036854775806) : XPure E 70 [.str s, .int .i64 most] (.bool (wholeF s most)) := by
  refine xpure1 (n := Tryz.f70.ntmps) (c := y65) (t := 4) (by rw [hP]; rfl) (by rw [hP]; kernel_rfl) (by decide) (Nat.le_of_ble_eq_true rfl) ?_
  generalize hρ : entry _ = ρ
  have h0 : ρ 0 = .str s := by rw [← hρ]; rfl
  have h1 : ρ 1 = .int .i64 most := by rw [← hρ]; rfl
  clear hρ
  unfold y65
  simp only [h0, h1, go_sem, Nat.reduceEqDiff, reduceIte, Int.reduceEq, Int.reduceLT, Int.reduceLE, Nat.reduceAdd, Nat.reduceLT, Nat.reduceLeDiff, Int.reduceToNat, Int.reduceSub, Int.reduceAdd, Int.reduceNeg]
  have hm := made_pure (E := E.noPan) hP s hs 66 digitF (fun b => digit_pure (E := E.noPan) hP b)
  have hm' : XPure E.noPan 61 [.str s, .fn (.func 66) [] []] (.bool (madeF digitF s)) := hm
  refine xcall_pure (args' := [.str s, .fn (.func 66) [] []]) rfl hm' rfl ?_
  unfold wholeF
  cases hmd : madeF digitF s with
  | false => simp only [h0, h1, Bool.false_and, go_sem, Nat.reduceEqDiff, reduceIte, Int.reduceEq, Int.reduceLT, Int.reduceLE, Nat.reduceAdd, Nat.reduceLT, Nat.reduceLeDiff, Int.reduceToNat, Int.reduceSub, Int.reduceAdd, Int.reduceNeg]; rfl
  | true =>
    have hne : s ≠ [] := by
      intro h; subst h; revert hmd; decide
    have hl : 0 < s.length := List.length_pos_iff.2 hne
    by_cases h2 : (s.length : Int) ≤ most
    · have e2 : ((s.length : Int) ≤ most) = True := eq_true h2
      by_cases h3 : (s.length : Int) = 1
      · have e3 : ((s.length : Int) = 1) = True := eq_true h3
        simp only [h0, h1, e2, e3, go_sem, Nat.reduceEqDiff, reduceIte, Int.reduceEq, Int.reduceLT, Int.reduceLE, Nat.reduceAdd, Nat.reduceLT, Nat.reduceLeDiff, Int.reduceToNat, Int.reduceSub, Int.reduceAdd, Int.reduceNeg]
        rfl
      · have e3 : ((s.length : Int) = 1) = False := eq_false h3
        simp only [h0, h1, e2, e3, go_sem, Nat.reduceEqDiff, reduceIte, Int.reduceEq, Int.reduceLT, Int.reduceLE, Nat.reduceAdd, Nat.reduceLT, Nat.reduceLeDiff, Int.reduceToNat, Int.reduceSub, Int.reduceAdd, Int.reduceNeg]
        refine ⟨by omega, ?_⟩
        try simp only [h0, h1, e2, e3, go_sem, Nat.reduceEqDiff, reduceIte, Int.reduceEq, Int.reduceLT, Int.reduceLE, Nat.reduceAdd, Nat.reduceLT, Nat.reduceLeDiff, Int.reduceToNat, Int.reduceSub, Int.reduceAdd, Int.reduceNeg]
        rfl
    · have e2 : ((s.length : Int) ≤ most) = False := eq_false h2
      simp only [h0, h1, e2, go_sem, Nat.reduceEqDiff, reduceIte, Int.reduceEq, Int.reduceLT, Int.reduceLE, Nat.reduceAdd, Nat.reduceLT, Nat.reduceLeDiff, Int.reduceToNat, Int.reduceSub, Int.reduceAdd, Int.reduceNeg]
      rfl
theorem cut_len (s p : List UInt8) : (Lib.cut s p).1.length ≤ s.length ∧ (Lib.cut s p).2.1.length ≤ s.length := by
  unfold Lib.cut
  split
  · simp only [List.length_take, List.length_drop]; omega
  · simp
def cut1 (s : List UInt8) : List UInt8 × List UInt8 × Bool := Lib.cut s [32]
def firstOk (s : List UInt8) : Bool := ((((((cut1 s).2.2 && (cut1 (cut1 s).2.1).2.2) && decide ((cut1 (cut1 s).2.1).2.1 = [72, 84, 84, 80, 47, 49, 46, 49])) && Lib.hasPrefix (cut1 (cut1 s).2.1).1 [47]) && madeF seenF (cut1 (cut1 s).2.1).1) && madeF upF (cut1 s).1)
theorem first_pure (hP : E.P = Tryz.prog) {m : Int} (hm : E.gl 2 = some [.int .i64 m]) (s : List UInt8) (hs : s.length < 4294967281) : XPure E 47 [.str s] (.tup [.str (cut1 s).1, .str (cut1 (cut1 s).2.1).1, .bool (firstOk s)]) := by
  have hc1 := cut_pure (E := E.noPan) hP hm s [32] hs
  have hl1 := cut_len s [32]
  have hc2 := cut_pure (E := E.noPan) hP hm (Lib.cut s [32]).2.1 [32] (by omega)
  have hl2 := cut_len (Lib.cut s [32]).2.1 [32]
  unfold firstOk cut1
  generalize Lib.cut s [32] = c1 at *
  generalize Lib.cut c1.2.1 [32] = c2 at *
  have hsn : XPure E.noPan 61 [.str c2.1, .fn (.func 62) [] []] (.bool (madeF seenF c2.1)) := made_pure (E := E.noPan) hP c2.1 (by omega) 62 seenF (fun b => seen_pure (E := E.noPan) hP b)
  have hup : XPure E.noPan 61 [.str c1.1, .fn (.func 63) [] []] (.bool (madeF upF c1.1)) := made_pure (E := E.noPan) hP c1.1 (by omega) 63 upF (fun b => up_pure (E := E.noPan) hP b)
  refine xpure_t3 (n := Tryz.f47.ntmps) (c := y27) (t := 2) (t' := 3) (t'' := 4) (by rw [hP]; rfl) (by rw [hP]; kernel_rfl) (by decide) (Nat.le_of_ble_eq_true rfl) ?_
  generalize hρ : entry _ = ρ
  have h0 : ρ 0 = .str s := by rw [← hρ]; rfl
  clear hρ
  unfold y27
  simp only [h0, go_sem, Nat.reduceEqDiff, reduceIte, Int.reduceEq, Int.reduceLT, Int.reduceLE, Nat.reduceAdd, Nat.reduceLT, Nat.reduceLeDiff, Int.reduceToNat, Int.reduceSub, Int.reduceAdd, Int.reduceNeg]
  refine xcall_pure (args' := [.str s, .str [32]]) rfl hc1 rfl ?_
  simp only [h0, go_sem, Nat.reduceEqDiff, reduceIte, Int.reduceEq, Int.reduceLT, Int.reduceLE, Nat.reduceAdd, Nat.reduceLT, Nat.reduceLeDiff, Int.reduceToNat, Int.reduceSub, Int.reduceAdd, Int.reduceNeg]
  refine xcall_pure (args' := [.str c1.2.1, .str [32]]) rfl hc2 rfl ?_
  simp only [h0, go_sem, Nat.reduceEqDiff, reduceIte, Int.reduceEq, Int.reduceLT, Int.reduceLE, Nat.reduceAdd, Nat.reduceLT, Nat.reduceLeDiff, Int.reduceToNat, Int.reduceSub, Int.reduceAdd, Int.reduceNeg]
  refine s_mg (by simp only [h0, go_sem, Nat.reduceEqDiff, reduceIte, Int.reduceEq, Int.reduceLT, Int.reduceLE, Nat.reduceAdd, Nat.reduceLT, Nat.reduceLeDiff, Int.reduceToNat, Int.reduceSub, Int.reduceAdd, Int.reduceNeg]; try rfl) ?_; simp only [cut_g, cut_t, cut_none, cut_out, memN_cons, memN_nil, Nat.reduceEqDiff, reduceIte, List.nil_append, List.cons_append, not_false_eq_true]; refine ex_merge rfl (by simp only [h0, go_sem, Nat.reduceEqDiff, reduceIte, Int.reduceEq, Int.reduceLT, Int.reduceLE, Nat.reduceAdd, Nat.reduceLT, Nat.reduceLeDiff, Int.reduceToNat, Int.reduceSub, Int.reduceAdd, Int.reduceNeg]) (by intro hb; simp only [hb, h0, go_sem, Nat.reduceEqDiff, reduceIte, Int.reduceEq, Int.reduceLT, Int.reduceLE, Nat.reduceAdd, Nat.reduceLT, Nat.reduceLeDiff, Int.reduceToNat, Int.reduceSub, Int.reduceAdd, Int.reduceNeg]; first | exact rfl | exact ⟨rfl, rfl⟩) (fun vs => ?_); simp only [h0, go_sem, Nat.reduceEqDiff, reduceIte, Int.reduceEq, Int.reduceLT, Int.reduceLE, Nat.reduceAdd, Nat.reduceLT, Nat.reduceLeDiff, Int.reduceToNat, Int.reduceSub, Int.reduceAdd, Int.reduceNeg]
  refine s_mg (by simp only [h0, go_sem, Nat.reduceEqDiff, reduceIte, Int.reduceEq, Int.reduceLT, Int.reduceLE, Nat.reduceAdd, Nat.reduceLT, Nat.reduceLeDiff, Int.reduceToNat, Int.reduceSub, Int.reduceAdd, Int.reduceNeg]; try rfl) ?_; simp only [cut_g, cut_t, cut_none, cut_out, memN_cons, memN_nil, Nat.reduceEqDiff, reduceIte, List.nil_append, List.cons_append, not_false_eq_true]; refine ex_merge rfl (by simp only [h0, go_sem, Nat.reduceEqDiff, reduceIte, Int.reduceEq, Int.reduceLT, Int.reduceLE, Nat.reduceAdd, Nat.reduceLT, Nat.reduceLeDiff, Int.reduceToNat, Int.reduceSub, Int.reduceAdd, Int.reduceNeg]) (by intro hb; simp only [hb, h0, go_sem, Nat.reduceEqDiff, reduceIte, Int.reduceEq, Int.reduceLT, Int.reduceLE, Nat.reduceAdd, Nat.reduceLT, Nat.reduceLeDiff, Int.reduceToNat, Int.reduceSub, Int.reduceAdd, Int.reduceNeg]; first | exact rfl | exact ⟨rfl, rfl⟩) (fun vs => ?_); simp only [h0, go_sem, Nat.reduceEqDiff, reduceIte, Int.reduceEq, Int.reduceLT, Int.reduceLE, Nat.reduceAdd, Nat.reduceLT, Nat.reduceLeDiff, Int.reduceToNat, Int.reduceSub, Int.reduceAdd, Int.reduceNeg]
  refine s_mg (by simp only [h0, go_sem, Nat.reduceEqDiff, reduceIte, Int.reduceEq, Int.reduceLT, Int.reduceLE, Nat.reduceAdd, Nat.reduceLT, Nat.reduceLeDiff, Int.reduceToNat, Int.reduceSub, Int.reduceAdd, Int.reduceNeg]; try rfl) ?_; simp only [cut_g, cut_t, cut_none, cut_out, memN_cons, memN_nil, Nat.reduceEqDiff, reduceIte, List.nil_append, List.cons_append, not_false_eq_true]; refine ex_merge rfl (by simp only [h0, go_sem, Nat.reduceEqDiff, reduceIte, Int.reduceEq, Int.reduceLT, Int.reduceLE, Nat.reduceAdd, Nat.reduceLT, Nat.reduceLeDiff, Int.reduceToNat, Int.reduceSub, Int.reduceAdd, Int.reduceNeg]) (by intro hb; simp only [hb, h0, go_sem, Nat.reduceEqDiff, reduceIte, Int.reduceEq, Int.reduceLT, Int.reduceLE, Nat.reduceAdd, Nat.reduceLT, Nat.reduceLeDiff, Int.reduceToNat, Int.reduceSub, Int.reduceAdd, Int.reduceNeg]; refine xcall_pure (args' := [.str c2.1, .str [47]]) rfl (hasPrefix_pure (E := E.noPan) hP c2.1 [47]) rfl ?_; (try simp only [h0, go_sem, Nat.reduceEqDiff, reduceIte, Int.reduceEq, Int.reduceLT, Int.reduceLE, Nat.reduceAdd, Nat.reduceLT, Nat.reduceLeDiff, Int.reduceToNat, Int.reduceSub, Int.reduceAdd, Int.reduceNeg]); (try simp only [hb, h0, go_sem, Nat.reduceEqDiff, reduceIte, Int.reduceEq, Int.reduceLT, Int.reduceLE, Nat.reduceAdd, Nat.reduceLT, Nat.reduceLeDiff, Int.reduceToNat, Int.reduceSub, Int.reduceAdd, Int.reduceNeg]); first | exact rfl | exact ⟨rfl, rfl⟩) (fun vs => ?_); simp only [h0, go_sem, Nat.reduceEqDiff, reduceIte, Int.reduceEq, Int.reduceLT, Int.reduceLE, Nat.reduceAdd, Nat.reduceLT, Nat.reduceLeDiff, Int.reduceToNat, Int.reduceSub, Int.reduceAdd, Int.reduceNeg]
  refine s_mg (by simp only [h0, go_sem, Nat.reduceEqDiff, reduceIte, Int.reduceEq, Int.reduceLT, Int.reduceLE, Nat.reduceAdd, Nat.reduceLT, Nat.reduceLeDiff, Int.reduceToNat, Int.reduceSub, Int.reduceAdd, Int.reduceNeg]; try rfl) ?_; simp only [cut_g, cut_t, cut_none, cut_out, memN_cons, memN_nil, Nat.reduceEqDiff, reduceIte, List.nil_append, List.cons_append, not_false_eq_true]; refine ex_merge rfl (by simp only [h0, go_sem, Nat.reduceEqDiff, reduceIte, Int.reduceEq, Int.reduceLT, Int.reduceLE, Nat.reduceAdd, Nat.reduceLT, Nat.reduceLeDiff, Int.reduceToNat, Int.reduceSub, Int.reduceAdd, Int.reduceNeg]) (by intro hb; simp only [hb, h0, go_sem, Nat.reduceEqDiff, reduceIte, Int.reduceEq, Int.reduceLT, Int.reduceLE, Nat.reduceAdd, Nat.reduceLT, Nat.reduceLeDiff, Int.reduceToNat, Int.reduceSub, Int.reduceAdd, Int.reduceNeg]; refine xcall_pure (args' := [.str c2.1, .fn (.func 62) [] []]) rfl hsn rfl ?_; (try simp only [h0, go_sem, Nat.reduceEqDiff, reduceIte, Int.reduceEq, Int.reduceLT, Int.reduceLE, Nat.reduceAdd, Nat.reduceLT, Nat.reduceLeDiff, Int.reduceToNat, Int.reduceSub, Int.reduceAdd, Int.reduceNeg]); (try simp only [hb, h0, go_sem, Nat.reduceEqDiff, reduceIte, Int.reduceEq, Int.reduceLT, Int.reduceLE, Nat.reduceAdd, Nat.reduceLT, Nat.reduceLeDiff, Int.reduceToNat, Int.reduceSub, Int.reduceAdd, Int.reduceNeg]); first | exact rfl | exact ⟨rfl, rfl⟩) (fun vs => ?_); simp only [h0, go_sem, Nat.reduceEqDiff, reduceIte, Int.reduceEq, Int.reduceLT, Int.reduceLE, Nat.reduceAdd, Nat.reduceLT, Nat.reduceLeDiff, Int.reduceToNat, Int.reduceSub, Int.reduceAdd, Int.reduceNeg]
  refine s_mg (by simp only [h0, go_sem, Nat.reduceEqDiff, reduceIte, Int.reduceEq, Int.reduceLT, Int.reduceLE, Nat.reduceAdd, Nat.reduceLT, Nat.reduceLeDiff, Int.reduceToNat, Int.reduceSub, Int.reduceAdd, Int.reduceNeg]; try rfl) ?_; simp only [cut_g, cut_t, cut_none, cut_out, memN_cons, memN_nil, Nat.reduceEqDiff, reduceIte, List.nil_append, List.cons_append, not_false_eq_true]; refine ex_merge rfl (by simp only [h0, go_sem, Nat.reduceEqDiff, reduceIte, Int.reduceEq, Int.reduceLT, Int.reduceLE, Nat.reduceAdd, Nat.reduceLT, Nat.reduceLeDiff, Int.reduceToNat, Int.reduceSub, Int.reduceAdd, Int.reduceNeg]) (by intro hb; simp only [hb, h0, go_sem, Nat.reduceEqDiff, reduceIte, Int.reduceEq, Int.reduceLT, Int.reduceLE, Nat.reduceAdd, Nat.reduceLT, Nat.reduceLeDiff, Int.reduceToNat, Int.reduceSub, Int.reduceAdd, Int.reduceNeg]; refine xcall_pure (args' := [.str c1.1, .fn (.func 63) [] []]) rfl hup rfl ?_; (try simp only [h0, go_sem, Nat.reduceEqDiff, reduceIte, Int.reduceEq, Int.reduceLT, Int.reduceLE, Nat.reduceAdd, Nat.reduceLT, Nat.reduceLeDiff, Int.reduceToNat, Int.reduceSub, Int.reduceAdd, Int.reduceNeg]); (try simp only [hb, h0, go_sem, Nat.reduceEqDiff, reduceIte, Int.reduceEq, Int.reduceLT, Int.reduceLE, Nat.reduceAdd, Nat.reduceLT, Nat.reduceLeDiff, Int.reduceToNat, Int.reduceSub, Int.reduceAdd, Int.reduceNeg]); first | exact rfl | exact ⟨rfl, rfl⟩) (fun vs => ?_); simp only [h0, go_sem, Nat.reduceEqDiff, reduceIte, Int.reduceEq, Int.reduceLT, Int.reduceLE, Nat.reduceAdd, Nat.reduceLT, Nat.reduceLeDiff, Int.reduceToNat, Int.reduceSub, Int.reduceAdd, Int.reduceNeg]
  rfl
end
end Go.X.TryzW
end
section
open Go Go.X Go.Proofs
set_option maxRecDepth 100000
set_option maxHeartbeats 4000000
set_option linter.unusedSimpArgs false
set_option linter.unusedVariables false
namespace Go.X.TryzW
/- "tiller/front.Field" params { toList := [38, 9] } results { toList := [Go.ResultVar.tmp 4, Go.ResultVar.tmp 5] } -/
def y40 : XC :=
 (.seq
  (.ops [
    ⟨(some 4), (.mov (.c (.str []))), none⟩,
    ⟨(some 5), (.mov (.c (.bool false))), none⟩])
  (.seq
   (.seq
    (.ops [
      ⟨(some 8), (.mov (.t 0)), none⟩,
      ⟨(some 9), (.len (.t 8)), none⟩,
      ⟨(some 10), (.mov (.c (.int .i64 0))), none⟩])
    (.block 0
     (.loop
      (.seq
       (.ops [
         ⟨(some 11), (.bin .lss (.t 10) (.t 9)), none⟩])
       (.seq
        (.cond (.t 11)
         .skip
         (.exit 0))
        (.seq
         (.block 1
          (.seq
           (.ops [
             ⟨(some 12), (.idxS 2 (.t 8) (.t 10)), none⟩,
             ⟨(some 13), (.loadN 2 (.t 12)), none⟩,
             ⟨(some 7), (.alloc [(.str []), (.str [])]), none⟩,
             ⟨none, (.store 2 (.t 7) (.t 13)), none⟩])
           (.seq
            (.ops [
              ⟨(some 14), (.fldA 0 (.t 7)), none⟩,
              ⟨(some 15), (.load1 (.t 14)), none⟩,
              ⟨(some 16), (.mov (.t 1)), none⟩,
              ⟨(some 17), (.bin .eql (.t 15) (.t 16)), none⟩])
            (.cond (.t 17)
             (.seq
              (.ops [
                ⟨(some 18), (.fldA 1 (.t 7)), none⟩,
                ⟨(some 19), (.load1 (.t 18)), none⟩,
                ⟨(some 4), (.mov (.t 19)), none⟩,
                ⟨(some 5), (.mov (.c (.bool true))), none⟩])
              .ret)
             .skip))))
         (.ops [
           ⟨(some 20), (.bin .add (.t 10) (.c (.int .i64 1))), none⟩,
           ⟨(some 10), (.mov (.t 20)), none⟩])))))))
   (.seq
    (.ops [
      ⟨(some 4), (.mov (.c (.str []))), none⟩,
      ⟨(some 5), (.mov (.c (.bool false))), none⟩])
    .ret)))

/- "tiller/front.Text" params { toList := [38, 9] } results { toList := [Go.ResultVar.tmp 4, Go.ResultVar.tmp 5] } -/
def y20 : XC :=
 (.seq
  (.ops [
    ⟨(some 4), (.mov (.c (.str []))), none⟩,
    ⟨(some 5), (.mov (.c (.bool false))), none⟩])
  (.seq
   (.ops [
     ⟨(some 11), (.mov (.t 0)), none⟩,
     ⟨(some 12), (.mov (.t 1)), none⟩,
     ⟨(some 13), (.call (.f 52) [(.t 11), (.t 12)]), none⟩,
     ⟨(some 10), (.mov (.t 13)), none⟩,
     ⟨(some 14), (.ext (.t 10) 0), none⟩,
     ⟨(some 15), (.ext (.t 10) 1), none⟩,
     ⟨(some 6), (.mov (.t 14)), none⟩,
     ⟨(some 7), (.mov (.t 15)), none⟩])
   (.seq
    (.seq
     (.ops [
       ⟨(some 17), (.mov (.t 6)), none⟩,
       ⟨(some 18), (.call (.f 53) [(.t 17), (.c (.str [34]))]), none⟩,
       ⟨(some 16), (.mov (.t 18)), none⟩,
       ⟨(some 19), (.ext (.t 16) 0), none⟩,
       ⟨(some 20), (.ext (.t 16) 1), none⟩,
       ⟨(some 8), (.mov (.t 19)), none⟩,
       ⟨(some 9), (.mov (.t 20)), none⟩])
     (.seq
      (.ops [
        ⟨(some 21), (.mov (.t 9)), none⟩])
      (.cond (.t 21)
       (.seq
        (.ops [
          ⟨(some 22), (.mov (.t 8)), none⟩,
          ⟨(some 4), (.mov (.t 22)), none⟩,
          ⟨(some 5), (.mov (.c (.bool true))), none⟩])
        .ret)
       .skip)))
    (.seq
     (.ops [
       ⟨(some 4), (.mov (.c (.str []))), none⟩,
       ⟨(some 5), (.mov (.c (.bool false))), none⟩])
     .ret))))

section
variable {E : Env}
def pRow (p : Fr.Pair) : List IV := [.str p.key, .str p.val]
def pRows (l : List Fr.Pair) : List (List IV) := l.map pRow
theorem pRows_len (l : List Fr.Pair) : (pRows l).length = l.length := List.length_map ..
theorem rows_p (l : List Fr.Pair) : Rows 2 (pRows l) := by
  intro row h
  obtain ⟨s, _, rfl⟩ := List.mem_map.1 h
  rfl
theorem pRows_get {l : List Fr.Pair} {i : Nat} (h : i < l.length) : (pRows l).getD i [] = pRow (l.getD i default) := by
  unfold pRows
  rw [List.getD_eq_getElem?_getD, List.getElem?_map, List.getElem?_eq_getElem h, List.getD_eq_getElem?_getD, List.getElem?_eq_getElem h]; rfl
def fieldP : List Fr.Pair → List UInt8 → List UInt8 × Bool
  | [], _ => ([], false)
  | p :: l, n => if p.key = n then (p.val, true) else fieldP l n
theorem lastB {J : List Blk} {x : Blk} : (J ++ [x])[J.length]? = some x := by simp
theorem setlastB {J : List Blk} {x y : Blk} : (J ++ [x]).set J.length y = J ++ [y] := by simp
theorem field_pure (hP : E.P = Tryz.prog) (l : List Fr.Pair) (hl : l.length ≤ 1000000) (n : List UInt8) : XPure E 52 [.isl (pRows l), .str n] (.tup [.str (fieldP l n).1, .bool (fieldP l n).2]) := by
  refine xpure2 (n := Tryz.f52.ntmps) (c := y40) (t := 4) (t' := 5) (by rw [hP]; rfl) (by rw [hP]; kernel_rfl) (by decide) (Nat.le_of_ble_eq_true rfl) ?_
  generalize hρ : entry _ = ρ
  have h0 : ρ 0 = .isl (pRows l) := by rw [← hρ]; rfl
  have h1 : ρ 1 = .str n := by rw [← hρ]; rfl
  clear hρ
  unfold y40
  simp only [h0, h1, pRows_len, go_sem, Nat.reduceEqDiff, reduceIte, Int.reduceEq, Int.reduceLT, Int.reduceLE, Nat.reduceAdd, Nat.reduceLT, Nat.reduceLeDiff, Int.reduceToNat, Int.reduceSub, Int.reduceAdd, Int.reduceNeg]
  refine s_loop (fun m ρ L => ∃ j : Nat, j ≤ l.length ∧ m = l.length - j ∧ fieldP (l.drop j) n = fieldP l n ∧ ρ 1 = .str n ∧ ρ 8 = .isl (pRows l) ∧ ρ 9 = .int .i64 l.length ∧ ρ 10 = .int .i64 j)
    ⟨0, Nat.zero_le _, rfl, rfl, by simp only [h1, go_sem, Nat.reduceEqDiff, reduceIte, Int.reduceEq, Int.reduceLT, Int.reduceLE, Nat.reduceAdd, Nat.reduceLT, Nat.reduceLeDiff, Int.reduceToNat, Int.reduceSub, Int.reduceAdd, Int.reduceNeg], by simp only [h0, go_sem, Nat.reduceEqDiff, reduceIte, Int.reduceEq, Int.reduceLT, Int.reduceLE, Nat.reduceAdd, Nat.reduceLT, Nat.reduceLeDiff, Int.reduceToNat, Int.reduceSub, Int.reduceAdd, Int.reduceNeg], by simp only [go_sem, Nat.reduceEqDiff, reduceIte, Int.reduceEq, Int.reduceLT, Int.reduceLE, Nat.reduceAdd, Nat.reduceLT, Nat.reduceLeDiff, Int.reduceToNat, Int.reduceSub, Int.reduceAdd, Int.reduceNeg], by simp only [go_sem, Nat.reduceEqDiff, reduceIte, Int.reduceEq, Int.reduceLT, Int.reduceLE, Nat.reduceAdd, Nat.reduceLT, Nat.reduceLeDiff, Int.reduceToNat, Int.reduceSub, Int.reduceAdd, Int.reduceNeg]; try rfl⟩ ?_
  clear h0 h1 ρ
  rintro m ρ L ⟨j, hj, rfl, hgo, h1, h8, h9, h10⟩
  simp only [h1, h8, h9, h10, go_sem, Nat.reduceEqDiff, reduceIte, Int.reduceEq, Int.reduceLT, Int.reduceLE, Nat.reduceAdd, Nat.reduceLT, Nat.reduceLeDiff, Int.reduceToNat, Int.reduceSub, Int.reduceAdd, Int.reduceNeg]
  refine s_cond (b := decide _) (by simp only [h1, h8, h9, h10, go_sem, Nat.reduceEqDiff, reduceIte, Int.reduceEq, Int.reduceLT, Int.reduceLE, Nat.reduceAdd, Nat.reduceLT, Nat.reduceLeDiff, Int.reduceToNat, Int.reduceSub, Int.reduceAdd, Int.reduceNeg]; try rfl) ?_ ?_ <;> intro hb <;> simp only [hb, h1, h8, h9, h10, pRows_len, rows_p, go_sem, Nat.reduceEqDiff, reduceIte, Int.reduceEq, Int.reduceLT, Int.reduceLE, Nat.reduceAdd, Nat.reduceLT, Nat.reduceLeDiff, Int.reduceToNat, Int.reduceSub, Int.reduceAdd, Int.reduceNeg]
  · rw [decide_eq_true_eq] at hb
    have hj' : j < l.length := by omega
    have hsr := pRows_get hj'
    have hdr : l.drop j = l.getD j default :: l.drop (j + 1) := by rw [List.getD_eq_getElem?_getD, List.getElem?_eq_getElem hj']; exact List.drop_eq_getElem_cons hj'
    rw [hdr, fieldP] at hgo
    generalize l.getD j default = p at *
    unfold pRow at hsr
    have hwr : IntKind.i64.wrap ((j : Int) + 1) = ((j + 1 : Nat) : Int) := by rw [wrap64 (by omega) (by omega)]; rfl
    try simp only [h1, h8, h9, h10, rows_p, hsr, lastB, setlastB, go_sem, Nat.reduceEqDiff, reduceIte, Int.reduceEq, Int.reduceLT, Int.reduceLE, Nat.reduceAdd, Nat.reduceLT, Nat.reduceLeDiff, Int.reduceToNat, Int.reduceSub, Int.reduceAdd, Int.reduceNeg]
    refine ⟨by omega, hj', ?_⟩
    refine s_cond (b := decide (p.key = n)) (by simp only [h1, h8, h9, h10, go_sem, Nat.reduceEqDiff, reduceIte, Int.reduceEq, Int.reduceLT, Int.reduceLE, Nat.reduceAdd, Nat.reduceLT, Nat.reduceLeDiff, Int.reduceToNat, Int.reduceSub, Int.reduceAdd, Int.reduceNeg]; try rfl) ?_ ?_ <;> intro hc <;> simp only [hc, h1, h8, h9, h10, hwr, lastB, setlastB, go_sem, Nat.reduceEqDiff, reduceIte, Int.reduceEq, Int.reduceLT, Int.reduceLE, Nat.reduceAdd, Nat.reduceLT, Nat.reduceLeDiff, Int.reduceToNat, Int.reduceSub, Int.reduceAdd, Int.reduceNeg]
    · rw [decide_eq_true_eq] at hc
      rw [if_pos hc] at hgo
      rw [← hgo]; exact ⟨rfl, rfl⟩
    · rw [decide_eq_false_iff_not] at hc
      rw [if_neg hc] at hgo
      exact ⟨l.length - (j + 1), by omega, j + 1, by omega, rfl, hgo, rfl⟩
  · rw [decide_eq_false_iff_not] at hb
    have hjl : j = l.length := by omega
    rw [hjl, List.drop_length] at hgo
    rw [← hgo]; exact ⟨rfl, rfl⟩
def textP (l : List Fr.Pair) (n : List UInt8) : List UInt8 × Bool := if Lib.hasPrefix (fieldP l n).1 [34] then (Lib.trimPrefix (fieldP l n).1 [34], true) else ([], false)
theorem text_pure (hP : E.P = Tryz.prog) (l : List Fr.Pair) (hl : l.length ≤ 1000000) (n : List UInt8) : XPure E 31 [.isl (pRows l), .str n] (.tup [.str (textP l n).1, .bool (textP l n).2]) := by
  refine xpure2 (n := Tryz.f31.ntmps) (c := y20) (t := 4) (t' := 5) (by rw [hP]; rfl) (by rw [hP]; kernel_rfl) (by decide) (Nat.le_of_ble_eq_true rfl) ?_
  generalize hρ : entry _ = ρ
  have h0 : ρ 0 = .isl (pRows l) := by rw [← hρ]; rfl
  have h1 : ρ 1 = .str n := by rw [← hρ]; rfl
  clear hρ
  unfold y20
  simp only [h0, h1, go_sem, Nat.reduceEqDiff, reduceIte, Int.reduceEq, Int.reduceLT, Int.reduceLE, Nat.reduceAdd, Nat.reduceLT, Nat.reduceLeDiff, Int.reduceToNat, Int.reduceSub, Int.reduceAdd, Int.reduceNeg]
  have hcv : ∀ (L : List Blk) (k : Nat) (m : Ren), mapO (mapO (conv L (k + 1) m)) (pRows l) = some (pRows l) := fun L k m => mapO_same fun row h => by
    obtain ⟨p, _, rfl⟩ := List.mem_map.1 h
    rfl
  refine xcall_pure (args' := [.isl (pRows l), .str n]) (by first | rfl | (simp [mapO, conv, fuel, hcv])) (field_pure (E := E.noPan) hP l hl n) rfl ?_
  unfold textP
  generalize fieldP l n = v at *
  simp only [h0, h1, go_sem, Nat.reduceEqDiff, reduceIte, Int.reduceEq, Int.reduceLT, Int.reduceLE, Nat.reduceAdd, Nat.reduceLT, Nat.reduceLeDiff, Int.reduceToNat, Int.reduceSub, Int.reduceAdd, Int.reduceNeg]
  refine xcall_pure (args' := [.str v.1, .str [34]]) rfl (cutPrefix_pure (E := E.noPan) hP v.1 [34]) rfl ?_
  simp only [h0, h1, go_sem, Nat.reduceEqDiff, reduceIte, Int.reduceEq, Int.reduceLT, Int.reduceLE, Nat.reduceAdd, Nat.reduceLT, Nat.reduceLeDiff, Int.reduceToNat, Int.reduceSub, Int.reduceAdd, Int.reduceNeg]
  refine s_cond (b := Lib.hasPrefix v.1 [34]) (by simp only [h0, h1, go_sem, Nat.reduceEqDiff, reduceIte, Int.reduceEq, Int.reduceLT, Int.reduceLE, Nat.reduceAdd, Nat.reduceLT, Nat.reduceLeDiff, Int.reduceToNat, Int.reduceSub, Int.reduceAdd, Int.reduceNeg]; try rfl) ?_ ?_ <;> intro hc <;> simp only [hc, h0, h1, go_sem, Nat.reduceEqDiff, reduceIte, Int.reduceEq, Int.reduceLT, Int.reduceLE, Nat.reduceAdd, Nat.reduceLT, Nat.reduceLeDiff, Int.reduceToNat, Int.reduceSub, Int.reduceAdd, Int.reduceNeg]
  · exact ⟨rfl, rfl⟩
  · first | exact ⟨rfl, rfl⟩ | (simp only [hc, Bool.false_eq_true, reduceIte]; exact ⟨rfl, rfl⟩)
end
end Go.X.TryzW
end
section
open Go Go.X Go.Proofs
set_option maxRecDepth 100000
set_option maxHeartbeats 4000000
set_option linter.unusedSimpArgs false
set_option linter.unusedVariables false
namespace Go.X.TryzW
/- "(*tiller/front.reader).is" params { toList := [63, 5] } results { toList := [Go.ResultVar.tmp 4] } -/
def y70 : XC :=
 (.seq
  (.ops [
    ⟨(some 4), (.mov (.c (.bool false))), none⟩])
  (.seq
   (.draw [
     ⟨(some 5), (.mov (.t 0)), none⟩,
     ⟨(some 6), (.nilck (.t 5)), none⟩,
     ⟨(some 7), (.fldA 1 (.t 6)), none⟩,
     ⟨(some 8), (.load1 (.t 7)), none⟩,
     ⟨(some 9), (.mov (.t 0)), none⟩,
     ⟨(some 10), (.nilck (.t 9)), none⟩,
     ⟨(some 11), (.fldA 0 (.t 10)), none⟩,
     ⟨(some 12), (.load1 (.t 11)), none⟩,
     ⟨(some 13), (.lenS (.t 12)), none⟩,
     ⟨(some 14), (.bin .lss (.t 8) (.t 13)), none⟩,
     ⟨(some 15), (.mov (.t 14)), none⟩,
     ⟨(some 16), (.mov (.t 0)), (some (15, true))⟩,
     ⟨(some 17), (.nilck (.t 16)), (some (15, true))⟩,
     ⟨(some 18), (.fldA 0 (.t 17)), (some (15, true))⟩,
     ⟨(some 19), (.load1 (.t 18)), (some (15, true))⟩,
     ⟨(some 20), (.mov (.t 0)), (some (15, true))⟩,
     ⟨(some 21), (.nilck (.t 20)), (some (15, true))⟩,
     ⟨(some 22), (.fldA 1 (.t 21)), (some (15, true))⟩,
     ⟨(some 23), (.load1 (.t 22)), (some (15, true))⟩,
     ⟨(some 24), (.idx (.t 19) (.t 23)), (some (15, true))⟩,
     ⟨(some 25), (.mov (.t 1)), (some (15, true))⟩,
     ⟨(some 26), (.bin .eql (.t 24) (.t 25)), (some (15, true))⟩,
     ⟨(some 27), (.pick (.t 15) (.t 26) (.c (.bool false))), none⟩,
     ⟨(some 4), (.mov (.t 27)), none⟩])
   .ret))

section
variable {E : Env}
theorem is_pure (hP : E.P = Tryz.prog) (s : List UInt8) (i : Nat) (hs : s.length ≤ 1000000) (b : UInt8) : XPure E 75 [.iptr [[.str s, .int .i64 i]] 0 0, .int .u8 b.toNat] (.bool (Fr.isAt s i b)) := by
  refine xpure1 (n := Tryz.f75.ntmps) (c := y70) (t := 4) (by rw [hP]; rfl) (by rw [hP]; kernel_rfl) (by decide) (Nat.le_of_ble_eq_true rfl) ?_
  generalize hρ : entry _ = ρ
  have h0 : ρ 0 = .iptr [[.str s, .int .i64 i]] 0 0 := by rw [← hρ]; rfl
  have h1 : ρ 1 = .int .u8 b.toNat := by rw [← hρ]; rfl
  clear hρ
  unfold y70
  have hb : ∀ c : UInt8, ((c.toNat : Int) = (b.toNat : Int)) = (c = b) := fun c => propext ⟨fun h => UInt8.toNat_inj.1 (by omega), fun h => by rw [h]⟩
  by_cases hi : i < s.length
  · have e1 : ((i : Int) < (s.length : Int)) = True := eq_true (by omega)
    have er : Fr.isAt s i b = decide (s.getD i 0 = b) := by unfold Fr.isAt; rw [decide_eq_true hi, Bool.true_and]
    rw [er]
    simp only [h0, h1, e1, hb, go_sem, Nat.reduceEqDiff, reduceIte, Int.reduceEq, Int.reduceLT, Int.reduceLE, Nat.reduceAdd, Nat.reduceLT, Nat.reduceLeDiff, Int.reduceToNat, Int.reduceSub, Int.reduceAdd, Int.reduceNeg]
    exact ⟨by rfl, rfl⟩
  · have e1 : ((i : Int) < (s.length : Int)) = False := eq_false (by omega)
    have er : Fr.isAt s i b = false := by unfold Fr.isAt; rw [decide_eq_false hi, Bool.false_and]
    rw [er]
    simp only [h0, h1, e1, go_sem, Nat.reduceEqDiff, reduceIte, Int.reduceEq, Int.reduceLT, Int.reduceLE, Nat.reduceAdd, Nat.reduceLT, Nat.reduceLeDiff, Int.reduceToNat, Int.reduceSub, Int.reduceAdd, Int.reduceNeg]
    exact ⟨by rfl, rfl⟩
end
end Go.X.TryzW
end
section
open Go Go.X Go.Proofs
set_option maxRecDepth 100000
set_option maxHeartbeats 4000000
set_option linter.unusedSimpArgs false
set_option linter.unusedVariables false
namespace Go.X.TryzW
/- "tiller/front.fail" params { toList := [3, 39] } results { toList := [] } -/
def y72 : XC :=
 (.ops [
   ⟨(some 4), (.mov (.t 0)), none⟩,
   ⟨(some 5), (.mov (.t 1)), none⟩,
   ⟨(some 6), (.build [(.int .i64 0), (.int .i64 0)] [(0, (1, (.t 4))), (1, (1, (.t 5)))]), none⟩,
   ⟨(some 7), (.ex (.mkif 90) [(.t 6)]), none⟩,
   ⟨none, (.ex .panic [(.t 7)]), none⟩])

/- "(*tiller/front.reader).must" params { toList := [63, 5] } results { toList := [] } -/
def y69 : XC :=
 (.seq
  (.seq
   (.ops [
     ⟨(some 4), (.mov (.t 0)), none⟩,
     ⟨(some 5), (.mov (.t 1)), none⟩,
     ⟨(some 6), (.call (.f 75) [(.t 4), (.t 5)]), none⟩,
     ⟨(some 7), (.un .not (.t 6)), none⟩])
   (.cond (.t 7)
    (.ops [
      ⟨(some 8), (.mov (.t 0)), none⟩,
      ⟨(some 9), (.nilck (.t 8)), none⟩,
      ⟨(some 10), (.fldA 1 (.t 9)), none⟩,
      ⟨(some 11), (.load1 (.t 10)), none⟩,
      ⟨(some 12), (.call (.f 77) [(.t 11), (.c (.int .i64 2))]), none⟩])
    .skip))
  (.ops [
    ⟨(some 13), (.mov (.t 0)), none⟩,
    ⟨(some 14), (.nilck (.t 13)), none⟩,
    ⟨(some 15), (.fldA 1 (.t 14)), none⟩,
    ⟨(some 16), (.load1 (.t 15)), none⟩,
    ⟨(some 17), (.bin .add (.t 16) (.c (.int .i64 1))), none⟩,
    ⟨(some 18), (.nilck (.t 13)), none⟩,
    ⟨(some 19), (.fldA 1 (.t 18)), none⟩,
    ⟨none, (.store 1 (.t 19) (.t 17)), none⟩]))

section
variable {E : Env}
def stopV (i w : Int) : IV := .iface 90 (.agg [.int .i64 i, .int .i64 w])
theorem fail_tp (hP : E.P = Tryz.prog) (i w : Int) : XTP E 77 [.int .i64 i, .int .i64 w] [] (fun _ _ => False) (fun r L' => r = stopV i w ∧ L' = []) := by
  refine xtp_of_fun (F := ⟨Tryz.f77.ntmps, [], y72⟩) (pq := fun x L' => x = stopV i w ∧ L' = []) (fun x L' h => ?_) (by rw [hP]; rfl) (by rw [hP]; kernel_rfl) (by decide) (Nat.le_of_ble_eq_true rfl) ?_
  · obtain ⟨rfl, rfl⟩ := h
    exact leave_none rfl ⟨rfl, rfl⟩
  generalize hρ : entry _ = ρ
  show xrun _ y72 _ _ _
  rw [hρ]
  have h0 : ρ 0 = .int .i64 i := by rw [← hρ]; rfl
  have h1 : ρ 1 = .int .i64 w := by rw [← hρ]; rfl
  clear hρ
  unfold y72
  simp only [h0, h1, go_sem, Nat.reduceEqDiff, reduceIte, Int.reduceEq, Int.reduceLT, Int.reduceLE, Nat.reduceAdd, Nat.reduceLT, Nat.reduceLeDiff, Int.reduceToNat, Int.reduceSub, Int.reduceAdd, Int.reduceNeg]
  exact ⟨rfl, rfl⟩
def rdB (s : List UInt8) (i : Nat) : Blk := .cells 2 [[.str s, .int .i64 i]]
theorem must_tp (hP : E.P = Tryz.prog) (s : List UInt8) (i : Nat) (hs : s.length ≤ 1000000) (b : UInt8) : XTP E 74 [.ptr 0 0 0, .int .u8 b.toNat] [rdB s i] (fun r L' => Fr.isAt s i b = true ∧ r = .tup [] ∧ L' = [rdB s (i + 1)]) (fun r L' => Fr.isAt s i b = false ∧ r = stopV i 2 ∧ L' = [rdB s i]) := by
  refine xtp_of_fun (F := ⟨Tryz.f74.ntmps, [], y69⟩) (pq := fun x L' => Fr.isAt s i b = false ∧ x = stopV i 2 ∧ L' = [rdB s i]) (fun x L' h => ?_) (by rw [hP]; rfl) (by rw [hP]; kernel_rfl) (by decide) (Nat.le_of_ble_eq_true rfl) ?_
  · obtain ⟨h1, rfl, rfl⟩ := h
    exact leave_all (keep := []) (n := 1) .nil (by simp) rfl rfl ⟨h1, rfl, rfl⟩
  refine xrun_mono (K := doneK fun ρ L' => Fr.isAt s i b = true ∧ L' = [rdB s (i + 1)]) _ (fun e ρ L h => ?_) ?_
  · cases e with
    | normal => obtain ⟨h1, rfl⟩ := h; exact ⟨Or.inr rfl, leave_all (keep := []) (n := 1) .nil (by simp) rfl rfl ⟨h1, rfl, rfl⟩⟩
    | ret => obtain ⟨h1, rfl⟩ := h; exact ⟨Or.inl rfl, leave_all (keep := []) (n := 1) .nil (by simp) rfl rfl ⟨h1, rfl, rfl⟩⟩
    | exit => exact h.elim
    | goto => exact h.elim
  generalize hρ : entry _ = ρ
  have h0 : ρ 0 = .ptr 0 0 0 := by rw [← hρ]; rfl
  have h1 : ρ 1 = .int .u8 b.toNat := by rw [← hρ]; rfl
  clear hρ
  show xrun _ y69 _ _ _
  unfold y69
  simp only [h0, h1, rdB, go_sem, Nat.reduceEqDiff, reduceIte, Int.reduceEq, Int.reduceLT, Int.reduceLE, Nat.reduceAdd, Nat.reduceLT, Nat.reduceLeDiff, Int.reduceToNat, Int.reduceSub, Int.reduceAdd, Int.reduceNeg]
  refine xcall_lend (args' := [.iptr [[.str s, .int .i64 i]] 0 0, .int .u8 b.toNat]) rfl (is_pure hP s i hs b) rfl rfl ?_
  simp only [h0, h1, go_sem, Nat.reduceEqDiff, reduceIte, Int.reduceEq, Int.reduceLT, Int.reduceLE, Nat.reduceAdd, Nat.reduceLT, Nat.reduceLeDiff, Int.reduceToNat, Int.reduceSub, Int.reduceAdd, Int.reduceNeg]
  have hwr : ∀ h : i < s.length, IntKind.i64.wrap ((i : Int) + 1) = ((i + 1 : Nat) : Int) := fun h => by rw [wrap64 (by omega) (by omega)]; rfl
  refine s_cond (b := !Fr.isAt s i b) (by simp only [h0, h1, go_sem, Nat.reduceEqDiff, reduceIte, Int.reduceEq, Int.reduceLT, Int.reduceLE, Nat.reduceAdd, Nat.reduceLT, Nat.reduceLeDiff, Int.reduceToNat, Int.reduceSub, Int.reduceAdd, Int.reduceNeg]; try rfl) ?_ ?_ <;> intro hc <;> simp only [hc, h0, h1, go_sem, Nat.reduceEqDiff, reduceIte, Int.reduceEq, Int.reduceLT, Int.reduceLE, Nat.reduceAdd, Nat.reduceLT, Nat.reduceLeDiff, Int.reduceToNat, Int.reduceSub, Int.reduceAdd, Int.reduceNeg]
  · have hf : Fr.isAt s i b = false := by simpa using hc
    refine xcall_selP (args' := [.int .i64 i, .int .i64 2]) (L0 := []) [] .nil (by simp) rfl rfl (fail_tp hP i 2) (fun r L1 h => h.elim) (fun r L1 h => ?_)
    obtain ⟨rfl, rfl⟩ := h
    exact ⟨_, [], rfl, rfl, hf, rfl, rfl⟩
  · have ht : Fr.isAt s i b = true := by simpa using hc
    have hi : i < s.length := by
      unfold Fr.isAt at ht
      rw [Bool.and_eq_true, decide_eq_true_eq] at ht
      exact ht.1
    rw [hwr hi]; exact ⟨ht, rfl⟩
end
end Go.X.TryzW
end
section
open Go Go.X Go.Proofs
set_option maxRecDepth 100000
set_option maxHeartbeats 4000000
set_option linter.unusedSimpArgs false
set_option linter.unusedVariables false
namespace Go.X.TryzW
/- "(*tiller/front.reader).blanks" params { toList := [63] } results { toList := [] } -/
def y68 : XC :=
 (.block 0
  (.loop
   (.seq
    (.seq
     (.drawE [
       ⟨(some 2), (.mov (.t 0)), none⟩,
       ⟨(some 3), (.nilck (.t 2)), none⟩,
       ⟨(some 4), (.fldA 1 (.t 3)), none⟩,
       ⟨(some 5), (.load1 (.t 4)), none⟩,
       ⟨(some 6), (.mov (.t 0)), none⟩,
       ⟨(some 7), (.nilck (.t 6)), none⟩,
       ⟨(some 8), (.fldA 0 (.t 7)), none⟩,
       ⟨(some 9), (.load1 (.t 8)), none⟩,
       ⟨(some 10), (.lenS (.t 9)), none⟩,
       ⟨(some 11), (.bin .lss (.t 5) (.t 10)), none⟩,
       ⟨(some 12), (.mov (.t 11)), none⟩,
       ⟨(some 13), (.mov (.t 0)), (some (12, true))⟩,
       ⟨(some 14), (.nilck (.t 13)), (some (12, true))⟩,
       ⟨(some 15), (.fldA 0 (.t 14)), (some (12, true))⟩,
       ⟨(some 16), (.load1 (.t 15)), (some (12, true))⟩,
       ⟨(some 17), (.mov (.t 0)), (some (12, true))⟩,
       ⟨(some 18), (.nilck (.t 17)), (some (12, true))⟩,
       ⟨(some 19), (.fldA 1 (.t 18)), (some (12, true))⟩,
       ⟨(some 20), (.load1 (.t 19)), (some (12, true))⟩,
       ⟨(some 21), (.idx (.t 16) (.t 20)), (some (12, true))⟩,
       ⟨(some 22), (.pcall (.f 41) [(.c (.str [32, 9, 10, 13])), (.t 21)]), (some (12, true))⟩,
       ⟨(some 23), (.bin .geq (.t 22) (.c (.int .i64 0))), (some (12, true))⟩,
       ⟨(some 24), (.pick (.t 12) (.t 23) (.c (.bool false))), none⟩])
     (.cond (.t 24)
      .skip
      (.exit 0)))
    (.block 1
     (.ops [
       ⟨(some 25), (.mov (.t 0)), none⟩,
       ⟨(some 26), (.nilck (.t 25)), none⟩,
       ⟨(some 27), (.fldA 1 (.t 26)), none⟩,
       ⟨(some 28), (.load1 (.t 27)), none⟩,
       ⟨(some 29), (.bin .add (.t 28) (.c (.int .i64 1))), none⟩,
       ⟨(some 30), (.nilck (.t 25)), none⟩,
       ⟨(some 31), (.fldA 1 (.t 30)), none⟩,
       ⟨none, (.store 1 (.t 31) (.t 29)), none⟩])))))

section
variable {E : Env}
def wsL : List UInt8 := [32, 9, 10, 13]
theorem ws_blank (b : UInt8) : decide (0 ≤ Lib.indexByte wsL b) = Fr.blankB b := by
  unfold Fr.blankB wsL
  by_cases h1 : b = 32
  · subst h1; decide
  by_cases h2 : b = 9
  · subst h2; decide
  by_cases h3 : b = 10
  · subst h3; decide
  by_cases h4 : b = 13
  · subst h4; decide
  simp [Lib.indexByte, h1, h2, h3, h4, Ne.symm h1, Ne.symm h2, Ne.symm h3, Ne.symm h4]
theorem blanksGo_step (s : List UInt8) (i : Nat) (h : i < s.length) (hb : Fr.blankB (s.getD i 0) = true) : Fr.blanks s i = Fr.blanks s (i + 1) := by
  unfold Fr.blanks
  obtain ⟨k, hk⟩ : ∃ k, s.length - i = k + 1 := ⟨s.length - i - 1, by omega⟩
  rw [hk, Fr.blanksGo, if_pos (by rw [decide_eq_true h, hb]; rfl), show s.length - (i + 1) = k by omega]
theorem blanksGo_stop (s : List UInt8) (i : Nat) (h : (decide (i < s.length) && Fr.blankB (s.getD i 0)) = false) : Fr.blanks s i = i := by
  unfold Fr.blanks
  cases s.length - i with
  | zero => rfl
  | succ k => rw [Fr.blanksGo, if_neg (by rw [h]; decide)]
theorem blanks_t (hP : E.P = Tryz.prog) (s : List UInt8) (i : Nat) (hs : s.length ≤ 1000000) : XT E 73 [.ptr 0 0 0] [rdB s i] (fun r L' => r = .tup [] ∧ L' = [rdB s (Fr.blanks s i)]) := by
  refine xt_of_fun (F := ⟨Tryz.f73.ntmps, [], y68⟩) (by rw [hP]; rfl) (by rw [hP]; kernel_rfl) (by decide) (Nat.le_of_ble_eq_true rfl) ?_
  refine xrun_mono (K := doneK fun ρ L' => L' = [rdB s (Fr.blanks s i)]) _ (fun e ρ L h => ?_) ?_
  · cases e with
    | normal => exact ⟨Or.inr rfl, leave_all (keep := []) (n := 1) .nil (by simp) rfl (by rw [h]; rfl) ⟨rfl, rfl⟩⟩
    | ret => exact ⟨Or.inl rfl, leave_all (keep := []) (n := 1) .nil (by simp) rfl (by rw [h]; rfl) ⟨rfl, rfl⟩⟩
    | exit => exact h.elim
    | goto => exact h.elim
  generalize hρ : entry _ = ρ
  have h0 : ρ 0 = .ptr 0 0 0 := by rw [← hρ]; rfl
  clear hρ
  show xrun _ y68 _ _ _
  unfold y68
  refine xrun_mono (K := doneK fun ρ L' => L' = [rdB s (Fr.blanks s i)]) _ (fun e ρ L h => h) ?_
  simp only [h0, go_sem, Nat.reduceEqDiff, reduceIte, Int.reduceEq, Int.reduceLT, Int.reduceLE, Nat.reduceAdd, Nat.reduceLT, Nat.reduceLeDiff, Int.reduceToNat, Int.reduceSub, Int.reduceAdd, Int.reduceNeg]
  refine s_loop (fun n ρ L => ∃ j : Nat, n = s.length - j ∧ Fr.blanks s j = Fr.blanks s i ∧ L = [rdB s j] ∧ ρ 0 = .ptr 0 0 0) ⟨i, rfl, rfl, rfl, h0⟩ ?_
  clear h0 ρ
  rintro n ρ L ⟨j, rfl, hgo, rfl, h0⟩
  by_cases hj : j < s.length
  · have e1 : ((j : Int) < (s.length : Int)) = True := eq_true (by omega)
    simp only [h0, e1, rdB, go_sem, Nat.reduceEqDiff, reduceIte, Int.reduceEq, Int.reduceLT, Int.reduceLE, Nat.reduceAdd, Nat.reduceLT, Nat.reduceLeDiff, Int.reduceToNat, Int.reduceSub, Int.reduceAdd, Int.reduceNeg]
    refine o_pcall (args' := [.str wsL, .int .u8 (s.getD j 0).toNat]) rfl (indexByte_pure hP wsL (s.getD j 0)) (fun m => rfl) ?_
    have hws := ws_blank (s.getD j 0)
    have hwr : IntKind.i64.wrap ((j : Int) + 1) = ((j + 1 : Nat) : Int) := by rw [wrap64 (by omega) (by omega)]; rfl
    simp only [h0, hws, go_sem, Nat.reduceEqDiff, reduceIte, Int.reduceEq, Int.reduceLT, Int.reduceLE, Nat.reduceAdd, Nat.reduceLT, Nat.reduceLeDiff, Int.reduceToNat, Int.reduceSub, Int.reduceAdd, Int.reduceNeg]
    refine s_cond (b := Fr.blankB (s.getD j 0)) (by simp only [h0, hws, go_sem, Nat.reduceEqDiff, reduceIte, Int.reduceEq, Int.reduceLT, Int.reduceLE, Nat.reduceAdd, Nat.reduceLT, Nat.reduceLeDiff, Int.reduceToNat, Int.reduceSub, Int.reduceAdd, Int.reduceNeg]; try rfl) ?_ ?_ <;> intro hc <;> simp only [hc, h0, hwr, go_sem, Nat.reduceEqDiff, reduceIte, Int.reduceEq, Int.reduceLT, Int.reduceLE, Nat.reduceAdd, Nat.reduceLT, Nat.reduceLeDiff, Int.reduceToNat, Int.reduceSub, Int.reduceAdd, Int.reduceNeg]
    · exact ⟨s.length - (j + 1), by omega, j + 1, rfl, by rw [← hgo, blanksGo_step s j hj hc], rfl⟩
    · have hst := blanksGo_stop s j (by rw [hc, Bool.and_false])
      rw [← hgo, hst]; rfl
  · have e1 : ((j : Int) < (s.length : Int)) = False := eq_false (by omega)
    simp only [h0, e1, rdB, go_sem, Nat.reduceEqDiff, reduceIte, Int.reduceEq, Int.reduceLT, Int.reduceLE, Nat.reduceAdd, Nat.reduceLT, Nat.reduceLeDiff, Int.reduceToNat, Int.reduceSub, Int.reduceAdd, Int.reduceNeg]
    rw [← hgo, blanksGo_stop s j (by rw [decide_eq_false hj, Bool.false_and])]
end
end Go.X.TryzW
end
section
open Go Go.X Go.Proofs
set_option maxRecDepth 100000
set_option maxHeartbeats 4000000
set_option linter.unusedSimpArgs false
set_option linter.unusedVariables false
namespace Go.X.TryzW
/- "(*tiller/front.reader).number" params { toList := [63] } results { toList := [Go.ResultVar.tmp 2] } -/
def y98 : XC :=
 (.seq
  (.ops [
    ⟨(some 2), (.mov (.c (.str []))), none⟩])
  (.seq
   (.ops [
     ⟨(some 5), (.mov (.t 0)), none⟩,
     ⟨(some 6), (.nilck (.t 5)), none⟩,
     ⟨(some 7), (.fldA 1 (.t 6)), none⟩,
     ⟨(some 8), (.load1 (.t 7)), none⟩,
     ⟨(some 3), (.mov (.t 8)), none⟩])
   (.seq
    (.seq
     (.ops [
       ⟨(some 9), (.mov (.t 0)), none⟩,
       ⟨(some 10), (.call (.f 75) [(.t 9), (.c (.int .u8 45))]), none⟩])
     (.cond (.t 10)
      (.ops [
        ⟨(some 11), (.mov (.t 0)), none⟩,
        ⟨(some 12), (.nilck (.t 11)), none⟩,
        ⟨(some 13), (.fldA 1 (.t 12)), none⟩,
        ⟨(some 14), (.load1 (.t 13)), none⟩,
        ⟨(some 15), (.bin .add (.t 14) (.c (.int .i64 1))), none⟩,
        ⟨(some 16), (.nilck (.t 11)), none⟩,
        ⟨(some 17), (.fldA 1 (.t 16)), none⟩,
        ⟨none, (.store 1 (.t 17) (.t 15)), none⟩])
      .skip))
    (.seq
     (.ops [
       ⟨(some 18), (.mov (.t 0)), none⟩,
       ⟨(some 19), (.nilck (.t 18)), none⟩,
       ⟨(some 20), (.fldA 1 (.t 19)), none⟩,
       ⟨(some 21), (.load1 (.t 20)), none⟩,
       ⟨(some 4), (.mov (.t 21)), none⟩])
     (.seq
      (.block 0
       (.loop
        (.seq
         (.seq
          (.drawE [
            ⟨(some 22), (.mov (.t 0)), none⟩,
            ⟨(some 23), (.nilck (.t 22)), none⟩,
            ⟨(some 24), (.fldA 1 (.t 23)), none⟩,
            ⟨(some 25), (.load1 (.t 24)), none⟩,
            ⟨(some 26), (.mov (.t 0)), none⟩,
            ⟨(some 27), (.nilck (.t 26)), none⟩,
            ⟨(some 28), (.fldA 0 (.t 27)), none⟩,
            ⟨(some 29), (.load1 (.t 28)), none⟩,
            ⟨(some 30), (.lenS (.t 29)), none⟩,
            ⟨(some 31), (.bin .lss (.t 25) (.t 30)), none⟩,
            ⟨(some 32), (.mov (.t 31)), none⟩,
            ⟨(some 33), (.mov (.t 0)), (some (32, true))⟩,
            ⟨(some 34), (.nilck (.t 33)), (some (32, true))⟩,
            ⟨(some 35), (.fldA 0 (.t 34)), (some (32, true))⟩,
            ⟨(some 36), (.load1 (.t 35)), (some (32, true))⟩,
            ⟨(some 37), (.mov (.t 0)), (some (32, true))⟩,
            ⟨(some 38), (.nilck (.t 37)), (some (32, true))⟩,
            ⟨(some 39), (.fldA 1 (.t 38)), (some (32, true))⟩,
            ⟨(some 40), (.load1 (.t 39)), (some (32, true))⟩,
            ⟨(some 41), (.idx (.t 36) (.t 40)), (some (32, true))⟩,
            ⟨(some 42), (.pcall (.f 66) [(.t 41)]), (some (32, true))⟩,
            ⟨(some 43), (.pick (.t 32) (.t 42) (.c (.bool false))), none⟩,
            ⟨(some 44), (.mov (.t 43)), none⟩,
            ⟨(some 45), (.mov (.t 0)), (some (44, true))⟩,
            ⟨(some 46), (.nilck (.t 45)), (some (44, true))⟩,
            ⟨(some 47), (.fldA 1 (.t 46)), (some (44, true))⟩,
            ⟨(some 48), (.load1 (.t 47)), (some (44, true))⟩,
            ⟨(some 49), (.mov (.t 4)), (some (44, true))⟩,
            ⟨(some 50), (.bin .add (.t 49) (.c (.int .i64 15))), (some (44, true))⟩,
            ⟨(some 51), (.bin .lss (.t 48) (.t 50)), (some (44, true))⟩,
            ⟨(some 52), (.pick (.t 44) (.t 51) (.c (.bool false))), none⟩])
          (.cond (.t 52)
           .skip
           (.exit 0)))
         (.block 1
          (.seq
           (.seq
            (.ops [
              ⟨(some 53), (.mov (.t 0)), none⟩,
              ⟨(some 54), (.nilck (.t 53)), none⟩,
              ⟨(some 55), (.fldA 0 (.t 54)), none⟩,
              ⟨(some 56), (.load1 (.t 55)), none⟩,
              ⟨(some 57), (.mov (.t 4)), none⟩,
              ⟨(some 58), (.idx (.t 56) (.t 57)), none⟩,
              ⟨(some 59), (.bin .eql (.t 58) (.c (.int .u8 48))), none⟩,
              ⟨(some 60), (.mov (.t 59)), none⟩,
              ⟨(some 61), (.mov (.t 0)), (some (60, true))⟩,
              ⟨(some 62), (.nilck (.t 61)), (some (60, true))⟩,
              ⟨(some 63), (.fldA 1 (.t 62)), (some (60, true))⟩,
              ⟨(some 64), (.load1 (.t 63)), (some (60, true))⟩,
              ⟨(some 65), (.mov (.t 4)), (some (60, true))⟩,
              ⟨(some 66), (.bin .gtr (.t 64) (.t 65)), (some (60, true))⟩,
              ⟨(some 67), (.mov (.t 66)), (some (60, true))⟩,
              ⟨(some 68), (.mov (.t 4)), (some (67, false))⟩,
              ⟨(some 69), (.mov (.t 3)), (some (67, false))⟩,
              ⟨(some 70), (.bin .gtr (.t 68) (.t 69)), (some (67, false))⟩,
              ⟨(some 71), (.pick (.t 67) (.c (.bool true)) (.t 70)), (some (60, true))⟩,
              ⟨(some 72), (.pick (.t 60) (.t 71) (.c (.bool false))), none⟩])
            (.cond (.t 72)
             (.exit 0)
             .skip))
           (.ops [
             ⟨(some 73), (.mov (.t 0)), none⟩,
             ⟨(some 74), (.nilck (.t 73)), none⟩,
             ⟨(some 75), (.fldA 1 (.t 74)), none⟩,
             ⟨(some 76), (.load1 (.t 75)), none⟩,
             ⟨(some 77), (.bin .add (.t 76) (.c (.int .i64 1))), none⟩,
             ⟨(some 78), (.nilck (.t 73)), none⟩,
             ⟨(some 79), (.fldA 1 (.t 78)), none⟩,
             ⟨none, (.store 1 (.t 79) (.t 77)), none⟩]))))))
      (.seq
       (.seq
        (.ops [
          ⟨(some 80), (.mov (.t 0)), none⟩,
          ⟨(some 81), (.nilck (.t 80)), none⟩,
          ⟨(some 82), (.fldA 1 (.t 81)), none⟩,
          ⟨(some 83), (.load1 (.t 82)), none⟩,
          ⟨(some 84), (.mov (.t 4)), none⟩,
          ⟨(some 85), (.bin .eql (.t 83) (.t 84)), none⟩])
        (.cond (.t 85)
         (.ops [
           ⟨(some 86), (.mov (.t 0)), none⟩,
           ⟨(some 87), (.nilck (.t 86)), none⟩,
           ⟨(some 88), (.fldA 1 (.t 87)), none⟩,
           ⟨(some 89), (.load1 (.t 88)), none⟩,
           ⟨(some 90), (.call (.f 77) [(.t 89), (.c (.int .i64 2))]), none⟩])
         .skip))
       (.seq
        (.draw [
          ⟨(some 91), (.mov (.t 0)), none⟩,
          ⟨(some 92), (.nilck (.t 91)), none⟩,
          ⟨(some 93), (.fldA 0 (.t 92)), none⟩,
          ⟨(some 94), (.load1 (.t 93)), none⟩,
          ⟨(some 95), (.mov (.t 3)), none⟩,
          ⟨(some 96), (.mov (.t 0)), none⟩,
          ⟨(some 97), (.nilck (.t 96)), none⟩,
          ⟨(some 98), (.fldA 1 (.t 97)), none⟩,
          ⟨(some 99), (.load1 (.t 98)), none⟩,
          ⟨(some 100), (.sliceS (.t 94) (some (.t 95)) (some (.t 99))), none⟩,
          ⟨(some 2), (.mov (.t 100)), none⟩])
        .ret)))))))

section
variable {E : Env}
theorem xcut_norm {c : XC} {ρ : Rho} {L : List Blk} {K : XE → Rho → List Blk → Prop} (M : Rho → List Blk → Prop) (h1 : xrun E c ρ L (Norm M)) (h2 : ∀ ρ L, M ρ L → K .normal ρ L) : xrun E c ρ L K := by
  refine xrun_mono c (fun e ρ L h => ?_) h1
  cases e with
  | normal => exact h2 ρ L h
  | exit => exact h.elim
  | goto => exact h.elim
  | ret => exact h.elim
@[go_sem ↓] theorem norm_normal {M : Rho → List Blk → Prop} {ρ : Rho} {L : List Blk} : Norm M .normal ρ L = M ρ L := nr rfl
def numFst (s : List UInt8) (o : Nat) : Nat := if Fr.isAt s o 45 then o + 1 else o
theorem dig_eq (b : UInt8) : digitF b = Fr.digB b := by
  unfold digitF Fr.digB
  rw [show (decide ((48:Int) ≤ (b.toNat : Int))) = decide (48 ≤ b.toNat) from by apply decide_eq_decide.2; omega, show (decide ((b.toNat : Int) ≤ 57)) = decide (b.toNat ≤ 57) from by apply decide_eq_decide.2; omega]
theorem numGo_zero (s : List UInt8) (o f i : Nat) (h1 : i < s.length) (h2 : Fr.digB (s.getD i 0) = true) (h3 : i < f + 15) (h4 : (decide (s.getD f 0 = 48) && (decide (f < i) || decide (o < f))) = true) : Fr.numGo s o f (s.length - i) i = i := by
  obtain ⟨k, hk⟩ : ∃ k, s.length - i = k + 1 := ⟨s.length - i - 1, by omega⟩
  rw [hk, Fr.numGo, if_pos (by rw [decide_eq_true h1, h2, decide_eq_true h3]; rfl), if_pos h4]
theorem numGo_next (s : List UInt8) (o f i : Nat) (h1 : i < s.length) (h2 : Fr.digB (s.getD i 0) = true) (h3 : i < f + 15) (h4 : (decide (s.getD f 0 = 48) && (decide (f < i) || decide (o < f))) = false) : Fr.numGo s o f (s.length - i) i = Fr.numGo s o f (s.length - (i + 1)) (i + 1) := by
  obtain ⟨k, hk⟩ : ∃ k, s.length - i = k + 1 := ⟨s.length - i - 1, by omega⟩
  rw [hk, Fr.numGo, if_pos (by rw [decide_eq_true h1, h2, decide_eq_true h3]; rfl), if_neg (by rw [h4]; decide), show s.length - (i + 1) = k by omega]
theorem numGo_stop (s : List UInt8) (o f i : Nat) (h : (decide (i < s.length) && Fr.digB (s.getD i 0) && decide (i < f + 15)) = false) : Fr.numGo s o f (s.length - i) i = i := by
  cases s.length - i with
  | zero => rfl
  | succ k => rw [Fr.numGo, if_neg (by rw [h]; decide)]
theorem numGo_bnd (s : List UInt8) (o f : Nat) : ∀ (k i : Nat), i ≤ s.length → i ≤ Fr.numGo s o f k i ∧ Fr.numGo s o f k i ≤ s.length
  | 0, i, h => ⟨Nat.le_refl _, h⟩
  | k + 1, i, h => by
    unfold Fr.numGo
    split
    · rename_i hc
      simp only [Bool.and_eq_true, decide_eq_true_eq] at hc
      split
      · exact ⟨Nat.le_refl _, h⟩
      · have := numGo_bnd s o f k (i + 1) (by omega); omega
    · exact ⟨Nat.le_refl _, h⟩
theorem number_tp (hP : E.P = Tryz.prog) (s : List UInt8) (o : Nat) (hs : s.length ≤ 1000000) (ho : o ≤ s.length) : XTP E 101 [.ptr 0 0 0] [rdB s o] (fun r L' => ∃ v i, Fr.number s o = .ok (v, i) ∧ r = .str v ∧ L' = [rdB s i])
    (fun r L' => ∃ p w j, Fr.number s o = .error (p, w) ∧ r = stopV p w ∧ L' = [rdB s j]) := by
  refine xtp_of_fun (F := ⟨Tryz.f101.ntmps, [.tmp 2], y98⟩) (pq := fun x L' => ∃ p w j, Fr.number s o = .error (p, w) ∧ x = stopV p w ∧ L' = [rdB s j]) (fun x L' h => ?_) (by rw [hP]; rfl) (by rw [hP]; kernel_rfl) (by decide) (Nat.le_of_ble_eq_true rfl) ?_
  · obtain ⟨p, w, j, h1, rfl, rfl⟩ := h
    exact leave_all (keep := []) (n := 1) .nil (by simp) rfl rfl ⟨p, w, j, h1, rfl, rfl⟩
  refine xfun1 (xrun_mono (K := doneK fun ρ L' => ∃ v i, Fr.number s o = .ok (v, i) ∧ ρ 2 = .str v ∧ L' = [rdB s i]) _ (fun e ρ L h => ?_) ?_)
  · cases e with
    | normal => obtain ⟨v, i, h1, h2, rfl⟩ := h; exact leave_all (keep := []) (n := 1) .nil (by simp) (by rw [h2]; rfl) rfl ⟨v, i, h1, rfl, rfl⟩
    | ret => obtain ⟨v, i, h1, h2, rfl⟩ := h; exact leave_all (keep := []) (n := 1) .nil (by simp) (by rw [h2]; rfl) rfl ⟨v, i, h1, rfl, rfl⟩
    | exit => exact h.elim
    | goto => exact h.elim
  generalize hρ : entry _ = ρ
  have h0 : ρ 0 = .ptr 0 0 0 := by rw [← hρ]; rfl
  clear hρ
  unfold y98
  simp only [h0, rdB, go_sem, Nat.reduceEqDiff, reduceIte, Int.reduceEq, Int.reduceLT, Int.reduceLE, Nat.reduceAdd, Nat.reduceLT, Nat.reduceLeDiff, Int.reduceToNat, Int.reduceSub, Int.reduceAdd, Int.reduceNeg]
  refine xcall_lend (args' := [.iptr [[.str s, .int .i64 o]] 0 0, .int .u8 (45 : UInt8).toNat]) rfl (is_pure hP s o hs 45) rfl rfl ?_
  simp only [h0, go_sem, Nat.reduceEqDiff, reduceIte, Int.reduceEq, Int.reduceLT, Int.reduceLE, Nat.reduceAdd, Nat.reduceLT, Nat.reduceLeDiff, Int.reduceToNat, Int.reduceSub, Int.reduceAdd, Int.reduceNeg]
  have hle : ∀ h : Fr.isAt s o 45 = true, o < s.length := fun h => by
    unfold Fr.isAt at h
    rw [Bool.and_eq_true, decide_eq_true_eq] at h
    exact h.1
  have hnum : Fr.number s o = (if Fr.numGo s o (numFst s o) (s.length - numFst s o) (numFst s o) = numFst s o then .error (Fr.numGo s o (numFst s o) (s.length - numFst s o) (numFst s o), Fr.form) else .ok ((s.take (Fr.numGo s o (numFst s o) (s.length - numFst s o) (numFst s o))).drop o, Fr.numGo s o (numFst s o) (s.length - numFst s o) (numFst s o))) := rfl
  refine xcut_norm (fun ρ' L' => L' = [rdB s (numFst s o)] ∧ ρ' 0 = .ptr 0 0 0 ∧ ρ' 3 = .int .i64 o) ?_ (fun ρ' L' h => ?_)
  · refine s_cond (b := Fr.isAt s o 45) (by simp only [h0, go_sem, Nat.reduceEqDiff, reduceIte, Int.reduceEq, Int.reduceLT, Int.reduceLE, Nat.reduceAdd, Nat.reduceLT, Nat.reduceLeDiff, Int.reduceToNat, Int.reduceSub, Int.reduceAdd, Int.reduceNeg]; try rfl) ?_ ?_ <;> intro hc <;> simp only [hc, h0, go_sem, Nat.reduceEqDiff, reduceIte, Int.reduceEq, Int.reduceLT, Int.reduceLE, Nat.reduceAdd, Nat.reduceLT, Nat.reduceLeDiff, Int.reduceToNat, Int.reduceSub, Int.reduceAdd, Int.reduceNeg]
    · have hlt := hle hc
      have hwr : IntKind.i64.wrap ((o : Int) + 1) = ((o + 1 : Nat) : Int) := by rw [wrap64 (by omega) (by omega)]; rfl
      unfold numFst
      rw [if_pos hc]
      first | (rw [hwr]; rfl) | (rw [hwr]; exact ⟨rfl, rfl, rfl⟩)
    · unfold numFst
      rw [if_neg (by rw [hc]; decide)]
      first | rfl | exact ⟨rfl, rfl, rfl⟩
  clear h0
  obtain ⟨rfl, h0, h3⟩ := h
  have hf1 : o ≤ numFst s o ∧ numFst s o ≤ s.length := by
    unfold numFst
    split
    · rename_i hc; have := hle hc; omega
    · omega
  generalize numFst s o = f at *
  simp only [h0, h3, rdB, go_sem, Nat.reduceEqDiff, reduceIte, Int.reduceEq, Int.reduceLT, Int.reduceLE, Nat.reduceAdd, Nat.reduceLT, Nat.reduceLeDiff, Int.reduceToNat, Int.reduceSub, Int.reduceAdd, Int.reduceNeg]
  refine xrun_cut (fun e ρ' L' => e = .exit 0 ∧ L' = [rdB s (Fr.numGo s o f (s.length - f) f)] ∧ ρ' 0 = .ptr 0 0 0 ∧ ρ' 3 = .int .i64 o ∧ ρ' 4 = .int .i64 f) ?_ ?_
  rotate_left
  · rintro e ρ L ⟨rfl, rfl, h0, h3, h4⟩
    have hbb := numGo_bnd s o f (s.length - f) f hf1.2
    generalize Fr.numGo s o f (s.length - f) f = g at *
    have heq : ((g : Int) = (f : Int)) = (g = f) := propext ⟨fun h => by omega, fun h => by rw [h]⟩
    simp only [h0, h3, h4, rdB, heq, go_sem, Nat.reduceEqDiff, reduceIte, Int.reduceEq, Int.reduceLT, Int.reduceLE, Nat.reduceAdd, Nat.reduceLT, Nat.reduceLeDiff, Int.reduceToNat, Int.reduceSub, Int.reduceAdd, Int.reduceNeg]
    refine s_cond (b := decide (g = f)) (by simp only [h0, go_sem, Nat.reduceEqDiff, reduceIte, Int.reduceEq, Int.reduceLT, Int.reduceLE, Nat.reduceAdd, Nat.reduceLT, Nat.reduceLeDiff, Int.reduceToNat, Int.reduceSub, Int.reduceAdd, Int.reduceNeg]; try rfl) ?_ ?_ <;> intro hc <;> simp only [hc, h0, h3, go_sem, Nat.reduceEqDiff, reduceIte, Int.reduceEq, Int.reduceLT, Int.reduceLE, Nat.reduceAdd, Nat.reduceLT, Nat.reduceLeDiff, Int.reduceToNat, Int.reduceSub, Int.reduceAdd, Int.reduceNeg]
    · have hgf : g = f := by simpa using hc
      refine xcall_selP (args' := [.int .i64 g, .int .i64 2]) (L0 := []) [] .nil (by simp) rfl rfl (fail_tp hP g 2) (fun r L1 h => h.elim) (fun r L1 h => ?_)
      obtain ⟨rfl, rfl⟩ := h
      exact ⟨_, [], rfl, rfl, g, 2, g, by rw [hnum, if_pos hgf]; rfl, rfl, rfl⟩
    · have hgf : ¬ g = f := by simpa using hc
      have e3 : ((o : Int) ≤ (g : Int)) = True := eq_true (by omega)
      have e4 : ((g : Int) ≤ (s.length : Int)) = True := eq_true (by omega)
      refine ⟨by rfl, ?_⟩
      refine ⟨by omega, by omega, _, _, by rw [hnum, if_neg hgf], rfl, rfl⟩
  refine s_loop (fun n ρ L => ∃ i : Nat, n = s.length - i ∧ f ≤ i ∧ i ≤ s.length ∧ Fr.numGo s o f (s.length - i) i = Fr.numGo s o f (s.length - f) f ∧ L = [rdB s i] ∧ ρ 0 = .ptr 0 0 0 ∧ ρ 3 = .int .i64 o ∧ ρ 4 = .int .i64 f)
    ⟨f, rfl, Nat.le_refl _, hf1.2, rfl, rfl, by simp only [h0, go_sem, Nat.reduceEqDiff, reduceIte, Int.reduceEq, Int.reduceLT, Int.reduceLE, Nat.reduceAdd, Nat.reduceLT, Nat.reduceLeDiff, Int.reduceToNat, Int.reduceSub, Int.reduceAdd, Int.reduceNeg], by simp only [h3, go_sem, Nat.reduceEqDiff, reduceIte, Int.reduceEq, Int.reduceLT, Int.reduceLE, Nat.reduceAdd, Nat.reduceLT, Nat.reduceLeDiff, Int.reduceToNat, Int.reduceSub, Int.reduceAdd, Int.reduceNeg], by simp only [go_sem, Nat.reduceEqDiff, reduceIte, Int.reduceEq, Int.reduceLT, Int.reduceLE, Nat.reduceAdd, Nat.reduceLT, Nat.reduceLeDiff, Int.reduceToNat, Int.reduceSub, Int.reduceAdd, Int.reduceNeg]⟩ ?_
  clear h0 h3
  rintro n ρ L ⟨i, rfl, hi1, hi2, hgo, rfl, h0, h3, h4⟩
  have hd := dig_eq (s.getD i 0)
  have e15 : IntKind.i64.wrap ((f : Int) + 15) = ((f + 15 : Nat) : Int) := by rw [wrap64 (by omega) (by omega)]; rfl
  have hwr : ∀ h : i < s.length, IntKind.i64.wrap ((i : Int) + 1) = ((i + 1 : Nat) : Int) := fun h => by rw [wrap64 (by omega) (by omega)]; rfl
  by_cases hi : i < s.length
  · have e1 : ((i : Int) < (s.length : Int)) = True := eq_true (by omega)
    simp only [h0, h3, h4, e1, rdB, go_sem, Nat.reduceEqDiff, reduceIte, Int.reduceEq, Int.reduceLT, Int.reduceLE, Nat.reduceAdd, Nat.reduceLT, Nat.reduceLeDiff, Int.reduceToNat, Int.reduceSub, Int.reduceAdd, Int.reduceNeg]
    refine o_pcall (args' := [.int .u8 (s.getD i 0).toNat]) rfl (digit_pure hP (s.getD i 0)) (fun m => rfl) ?_
    by_cases hdg : Fr.digB (s.getD i 0) = true
    · have hdt : digitF (s.getD i 0) = true := by rw [hd, hdg]
      by_cases h15 : i < f + 15
      · have e2 : ((i : Int) < ((f + 15 : Nat) : Int)) = True := eq_true (by omega)
        have hfl : f < s.length := by omega
        have e5 : ((f : Int) < (s.length : Int)) = True := eq_true (by omega)
        have e6 : ((0 : Int) ≤ (f : Int)) = True := eq_true (by omega)
        have e7 : (((s.getD f 0).toNat : Int) = 48) = (s.getD f 0 = 48) := propext ⟨fun h => UInt8.toNat_inj.1 (by have : (48 : UInt8).toNat = 48 := rfl; omega), fun h => by rw [h]; rfl⟩
        have e8 : ((f : Int) < (i : Int)) = (f < i) := propext ⟨fun h => by omega, fun h => by omega⟩
        have e9 : ((o : Int) < (f : Int)) = (o < f) := propext ⟨fun h => by omega, fun h => by omega⟩
        cases hz : (decide (s.getD f 0 = 48) && (decide (f < i) || decide (o < f))) with
        | true =>
          have hst := numGo_zero s o f i hi hdg h15 hz
          rw [Bool.and_eq_true, Bool.or_eq_true, decide_eq_true_eq, decide_eq_true_eq, decide_eq_true_eq] at hz
          obtain ⟨z1, z2⟩ := hz
          have y1 := e7.trans (eq_true z1)
          by_cases z3 : f < i
          · have y3 := e8.trans (eq_true z3)
            simp only [h0, h3, h4, hdt, e15, e2, e5, e6, y1, y3, go_sem, Nat.reduceEqDiff, reduceIte, Int.reduceEq, Int.reduceLT, Int.reduceLE, Nat.reduceAdd, Nat.reduceLT, Nat.reduceLeDiff, Int.reduceToNat, Int.reduceSub, Int.reduceAdd, Int.reduceNeg]
            first | (rw [← hgo, hst]; rfl) | (rw [← hgo, hst]; exact ⟨rfl, rfl, rfl, rfl⟩)
          · have y3 := e8.trans (eq_false z3)
            have z4 : o < f := z2.resolve_left z3
            have y4 := e9.trans (eq_true z4)
            simp only [h0, h3, h4, hdt, e15, e2, e5, e6, y1, y3, y4, go_sem, Nat.reduceEqDiff, reduceIte, Int.reduceEq, Int.reduceLT, Int.reduceLE, Nat.reduceAdd, Nat.reduceLT, Nat.reduceLeDiff, Int.reduceToNat, Int.reduceSub, Int.reduceAdd, Int.reduceNeg]
            first | (rw [← hgo, hst]; rfl) | (rw [← hgo, hst]; exact ⟨rfl, rfl, rfl, rfl⟩)
        | false =>
          have hst := numGo_next s o f i hi hdg h15 hz
          have hw := hwr hi
          by_cases z1 : s.getD f 0 = 48
          · rw [decide_eq_true z1, Bool.true_and, Bool.or_eq_false_iff, decide_eq_false_iff_not, decide_eq_false_iff_not] at hz
            obtain ⟨z2, z3⟩ := hz
            have y1 := e7.trans (eq_true z1)
            have y2 := e8.trans (eq_false z2)
            have y3 := e9.trans (eq_false z3)
            simp only [h0, h3, h4, hdt, e15, e2, e5, e6, y1, y2, y3, hw, go_sem, Nat.reduceEqDiff, reduceIte, Int.reduceEq, Int.reduceLT, Int.reduceLE, Nat.reduceAdd, Nat.reduceLT, Nat.reduceLeDiff, Int.reduceToNat, Int.reduceSub, Int.reduceAdd, Int.reduceNeg]
            exact ⟨s.length - (i + 1), by omega, i + 1, rfl, by omega, by omega, by rw [← hgo, hst], rfl⟩
          · have y1 := e7.trans (eq_false z1)
            simp only [h0, h3, h4, hdt, e15, e2, e5, e6, y1, hw, go_sem, Nat.reduceEqDiff, reduceIte, Int.reduceEq, Int.reduceLT, Int.reduceLE, Nat.reduceAdd, Nat.reduceLT, Nat.reduceLeDiff, Int.reduceToNat, Int.reduceSub, Int.reduceAdd, Int.reduceNeg]
            exact ⟨s.length - (i + 1), by omega, i + 1, rfl, by omega, by omega, by rw [← hgo, hst], rfl⟩
      · have e2 : ((i : Int) < ((f + 15 : Nat) : Int)) = False := eq_false (by omega)
        simp only [h0, h3, h4, hdt, e15, e2, go_sem, Nat.reduceEqDiff, reduceIte, Int.reduceEq, Int.reduceLT, Int.reduceLE, Nat.reduceAdd, Nat.reduceLT, Nat.reduceLeDiff, Int.reduceToNat, Int.reduceSub, Int.reduceAdd, Int.reduceNeg]
        rw [← hgo, numGo_stop s o f i (by rw [decide_eq_false h15, Bool.and_false])]; rfl
    · have hdt : digitF (s.getD i 0) = false := by rw [hd]; simpa using hdg
      simp only [h0, h3, h4, hdt, go_sem, Nat.reduceEqDiff, reduceIte, Int.reduceEq, Int.reduceLT, Int.reduceLE, Nat.reduceAdd, Nat.reduceLT, Nat.reduceLeDiff, Int.reduceToNat, Int.reduceSub, Int.reduceAdd, Int.reduceNeg]
      have hdf : Fr.digB (s.getD i 0) = false := by simpa using hdg
      rw [← hgo, numGo_stop s o f i (by rw [hdf, Bool.and_false, Bool.false_and])]; rfl
  · have e1 : ((i : Int) < (s.length : Int)) = False := eq_false (by omega)
    simp only [h0, h3, h4, e1, rdB, go_sem, Nat.reduceEqDiff, reduceIte, Int.reduceEq, Int.reduceLT, Int.reduceLE, Nat.reduceAdd, Nat.reduceLT, Nat.reduceLeDiff, Int.reduceToNat, Int.reduceSub, Int.reduceAdd, Int.reduceNeg]
    rw [← hgo, numGo_stop s o f i (by rw [decide_eq_false hi, Bool.false_and, Bool.false_and])]
end
end Go.X.TryzW
end
section
open Go Go.X Go.Proofs
set_option maxRecDepth 100000
set_option maxHeartbeats 4000000
set_option linter.unusedSimpArgs false
set_option linter.unusedVariables false
namespace Go.X.TryzW
section
variable {E : Env} {L : List Blk} {K : IV → List Blk → Prop}
theorem fail_call (hP : E.P = Tryz.prog) (i w : Int) (h : E.pan (stopV i w) L) : xcall E 77 [.int .i64 i, .int .i64 w] L K := by
  refine xcall_selP (args' := [.int .i64 i, .int .i64 w]) (L0 := []) [] .nil (by simp) rfl rfl (fail_tp hP i w) (fun r L1 h => h.elim) (fun r L1 h1 => ?_)
  obtain ⟨rfl, rfl⟩ := h1
  refine ⟨_, [], rfl, rfl, ?_⟩
  show E.pan _ (L ++ [])
  rw [List.append_nil]; exact h
theorem rd_call {f : FuncId} {s : List UInt8} {i : Nat} {xs : List IV} {R Q : IV → List Blk → Prop} (hL : L[0]? = some (rdB s i)) (hx : xs.all (plainD fuel) = true) (h : XTP E f (.ptr 0 0 0 :: xs) [rdB s i] R Q)
    (hk : ∀ r L1, R r L1 → ∃ j, L1 = [rdB s j] ∧ plainD fuel r = true ∧ K r (L.set 0 (rdB s j))) (hq : ∀ r L1, Q r L1 → ∃ j, L1 = [rdB s j] ∧ plainD fuel r = true ∧ E.pan r (L.set 0 (rdB s j))) : xcall E f (.ptr 0 0 0 :: xs) L K := by
  have hg : L.getD 0 .dead = rdB s i := by rw [List.getD_eq_getElem?_getD, hL]; rfl
  refine xcall_selP (args' := .ptr 0 0 0 :: xs) (L0 := [rdB s i]) [0] (by simp) (fun t ht => ?_) ?_ ?_ h (fun r L1 hr => ?_) (fun r L1 hr => ?_)
  · rw [List.mem_singleton] at ht; subst ht; exact ⟨_, hL, rfl⟩
  · have : mapO (conv L fuel (renSel [0] [] false)) xs = some xs := mapO_same fun x hxm => plainD_conv (by rw [List.all_eq_true] at hx; exact hx x hxm)
    simp only [mapO, this]; rfl
  · rw [List.map_cons, List.map_nil, hg]; rfl
  · obtain ⟨j, rfl, h2, h3⟩ := hk r L1 hr
    refine ⟨r, [rdB s j], plainD_conv h2, rfl, ?_⟩
    show K r (L.set 0 (rdB s j) ++ [])
    rw [List.append_nil]; exact h3
  · obtain ⟨j, rfl, h2, h3⟩ := hq r L1 hr
    refine ⟨r, [rdB s j], plainD_conv h2, rfl, ?_⟩
    show E.pan r (L.set 0 (rdB s j) ++ [])
    rw [List.append_nil]; exact h3
theorem is_call (hP : E.P = Tryz.prog) {s : List UInt8} {i : Nat} {b : UInt8} {n : Int} (hn : n = (b.toNat : Int)) (hs : s.length ≤ 1000000) (hL : L[0]? = some (rdB s i)) (h : K (.bool (Fr.isAt s i b)) L) : xcall E 75 [.ptr 0 0 0, .int .u8 n] L K := by
  subst hn
  refine xcall_lend (args' := [.iptr [[.str s, .int .i64 i]] 0 0, .int .u8 b.toNat]) ?_ (is_pure hP s i hs b) rfl rfl h
  show mapO (conv L 12 _) _ = _
  simp only [mapO, conv, renFreeze, hL, rdB]
  rfl
theorem fail_callQ {Q : IV → List Blk → Prop} (hP : E.P = Tryz.prog) (i w : Int) (h : Q (stopV i w) L) : xcall (E.withPan Q) 77 [.int .i64 i, .int .i64 w] L K := fail_call (E := E.withPan Q) hP i w h
theorem is_callQ {Q : IV → List Blk → Prop} (hP : E.P = Tryz.prog) {s : List UInt8} {i : Nat} {b : UInt8} {n : Int} (hn : n = (b.toNat : Int)) (hs : s.length ≤ 1000000) (hL : L[0]? = some (rdB s i)) (h : K (.bool (Fr.isAt s i b)) L) : xcall (E.withPan Q) 75 [.ptr 0 0 0, .int .u8 n] L K := is_call (E := E.withPan Q) hP hn hs hL h
theorem isAt_lt {s : List UInt8} {i : Nat} {b : UInt8} (h : Fr.isAt s i b = true) : i < s.length := by
  unfold Fr.isAt at h
  rw [Bool.and_eq_true, decide_eq_true_eq] at h
  exact h.1
theorem idx_place (l : List UInt8) (c : UInt8) : Lib.indexByte l c = match Fr.place l c with | some k => (k : Int) | none => -1 := by
  induction l with
  | nil => rfl
  | cons b l ih =>
    unfold Lib.indexByte Fr.place
    rw [List.findIdx?_cons]
    by_cases h : c = b
    · subst h; simp
    · have h1 : (b == c) = false := by simpa using Ne.symm h
      rw [h1, decide_eq_false (fun h2 => h h2.symm), ih]
      unfold Fr.place
      cases List.findIdx? (fun d => decide (d = c)) l with
      | none => rfl
      | some k => simp
theorem place_lt {l : List UInt8} {c : UInt8} {k : Nat} (h : Fr.place l c = some k) : k < l.length := by
  unfold Fr.place at h
  exact (List.findIdx?_eq_some_iff_getElem.1 h).1
@[go_sem] theorem o_or {k : IntKind} {a b : Int} {KV : IV → List Blk → Prop} : xop E (.bin .or (.c (.int k a)) (.c (.int k b))) cev L KV = KV (.int k (k.wrap (BitVec.ofInt k.bits a ||| BitVec.ofInt k.bits b).toNat)) L := by simp only [xop, xbin, cev_c, true_and]
@[go_sem] theorem o_and {k : IntKind} {a b : Int} {KV : IV → List Blk → Prop} : xop E (.bin .and (.c (.int k a)) (.c (.int k b))) cev L KV = KV (.int k (k.wrap (BitVec.ofInt k.bits a &&& BitVec.ofInt k.bits b).toNat)) L := by simp only [xop, xbin, cev_c, true_and]
@[go_sem] theorem o_xor {k : IntKind} {a b : Int} {KV : IV → List Blk → Prop} : xop E (.bin .xor (.c (.int k a)) (.c (.int k b))) cev L KV = KV (.int k (k.wrap (BitVec.ofInt k.bits a ^^^ BitVec.ofInt k.bits b).toNat)) L := by simp only [xop, xbin, cev_c, true_and]
@[go_sem] theorem o_shl {k k' : IntKind} {a b : Int} {KV : IV → List Blk → Prop} : xop E (.bin .shl (.c (.int k a)) (.c (.int k' b))) cev L KV = (0 ≤ b ∧ KV (.int k (k.wrap (a * 2 ^ min b.toNat k.bits))) L) := by simp only [xop, xbin, cev_c, true_and]
@[go_sem] theorem o_shr {k k' : IntKind} {a b : Int} {KV : IV → List Blk → Prop} : xop E (.bin .shr (.c (.int k a)) (.c (.int k' b))) cev L KV = (0 ≤ b ∧ KV (.int k (a.fdiv (2 ^ min b.toNat k.bits))) L) := by simp only [xop, xbin, cev_c, true_and]
theorem u8_or (b : UInt8) : IntKind.u8.wrap (BitVec.ofInt 8 (b.toNat : Int) ||| BitVec.ofInt 8 32).toNat = ((b ||| 32).toNat : Int) := by
  have h1 : (BitVec.ofInt 8 (b.toNat : Int) ||| BitVec.ofInt 8 32).toNat = (b ||| 32).toNat := by
    rw [UInt8.toNat_or, BitVec.toNat_or]
    congr 1
    have := b.toNat_lt
    simp only [BitVec.toNat_ofInt]
    omega
  rw [h1]
  have := (b ||| 32).toNat_lt
  generalize (b ||| 32).toNat = n at *
  simp only [IntKind.wrap, IntKind.bits, IntKind.signed]
  simp
  omega
@[go_sem high] theorem o_or32 {b : UInt8} {KV : IV → List Blk → Prop} : xop E (.bin .or (.c (.int .u8 b.toNat)) (.c (.int .u8 32))) cev L KV = KV (.int .u8 (b ||| 32).toNat) L := by
  rw [o_or]; exact congrArg (fun n : Int => KV (.int .u8 n) L) (u8_or b)
theorem i32_or (c k : Nat) (hc : c < 4096) (hk : k < 16) : IntKind.i32.wrap (BitVec.ofInt IntKind.i32.bits (IntKind.i32.wrap ((c : Int) * 2 ^ min 4 IntKind.i32.bits)) ||| BitVec.ofInt IntKind.i32.bits (IntKind.i32.wrap (k : Int))).toNat = ((c * 16 + k : Nat) : Int) := by
  show IntKind.i32.wrap (BitVec.ofInt 32 (IntKind.i32.wrap ((c : Int) * 2 ^ 4)) ||| BitVec.ofInt 32 (IntKind.i32.wrap (k : Int))).toNat = _
  have w : ∀ n : Nat, n < 65536 → IntKind.i32.wrap (n : Int) = n := fun n hn => by rw [IntKind.wrap_i32]; omega
  have e1 : ((c : Int) * 2 ^ 4) = ((c * 16 : Nat) : Int) := by push_cast; rfl
  rw [e1, w (c * 16) (by omega), w k (by omega)]
  have h1 : (BitVec.ofInt 32 ((c * 16 : Nat) : Int) ||| BitVec.ofInt 32 ((k : Nat) : Int)).toNat = c * 16 + k := by
    rw [BitVec.toNat_or]
    have e2 : (BitVec.ofInt 32 ((c * 16 : Nat) : Int)).toNat = c * 16 := by simp; omega
    have e3 : (BitVec.ofInt 32 ((k : Nat) : Int)).toNat = k := by simp; omega
    rw [e2, e3]
    have := Nat.shiftLeft_add_eq_or_of_lt (b := k) (i := 4) (by simpa using hk) c
    rw [Nat.shiftLeft_eq] at this
    exact this.symm
  rw [h1]
  exact w _ (by omega)
end
end Go.X.TryzW
end
section
open Go Go.X Go.Proofs
set_option maxRecDepth 100000
set_option maxHeartbeats 4000000
set_option linter.unusedSimpArgs false
set_option linter.unusedVariables false
namespace Go.X.TryzW
/- "(*tiller/front.reader).escape" params { toList := [63] } results { toList := [Go.ResultVar.tmp 2] } -/
def y117 : XC :=
 (.seq
  (.ops [
    ⟨(some 2), (.mov (.c (.int .i32 0))), none⟩])
  (.seq
   (.ops [
     ⟨(some 8), (.mov (.t 0)), none⟩,
     ⟨(some 9), (.nilck (.t 8)), none⟩,
     ⟨(some 10), (.fldA 1 (.t 9)), none⟩,
     ⟨(some 11), (.load1 (.t 10)), none⟩,
     ⟨(some 3), (.mov (.t 11)), none⟩])
   (.seq
    (.ops [
      ⟨(some 12), (.mov (.t 0)), none⟩,
      ⟨(some 13), (.nilck (.t 12)), none⟩,
      ⟨(some 14), (.fldA 1 (.t 13)), none⟩,
      ⟨(some 15), (.load1 (.t 14)), none⟩,
      ⟨(some 16), (.bin .add (.t 15) (.c (.int .i64 1))), none⟩,
      ⟨(some 17), (.nilck (.t 12)), none⟩,
      ⟨(some 18), (.fldA 1 (.t 17)), none⟩,
      ⟨none, (.store 1 (.t 18) (.t 16)), none⟩])
    (.seq
     (.seq
      (.draw [
        ⟨(some 19), (.mov (.t 0)), none⟩,
        ⟨(some 20), (.nilck (.t 19)), none⟩,
        ⟨(some 21), (.fldA 1 (.t 20)), none⟩,
        ⟨(some 22), (.load1 (.t 21)), none⟩,
        ⟨(some 23), (.mov (.t 0)), none⟩,
        ⟨(some 24), (.nilck (.t 23)), none⟩,
        ⟨(some 25), (.fldA 0 (.t 24)), none⟩,
        ⟨(some 26), (.load1 (.t 25)), none⟩,
        ⟨(some 27), (.lenS (.t 26)), none⟩,
        ⟨(some 28), (.bin .eql (.t 22) (.t 27)), none⟩])
      (.cond (.t 28)
       (.ops [
         ⟨(some 29), (.mov (.t 0)), none⟩,
         ⟨(some 30), (.nilck (.t 29)), none⟩,
         ⟨(some 31), (.fldA 1 (.t 30)), none⟩,
         ⟨(some 32), (.load1 (.t 31)), none⟩,
         ⟨(some 33), (.call (.f 77) [(.t 32), (.c (.int .i64 2))]), none⟩])
       .skip))
     (.seq
      (.draw [
        ⟨(some 34), (.mov (.t 0)), none⟩,
        ⟨(some 35), (.nilck (.t 34)), none⟩,
        ⟨(some 36), (.fldA 0 (.t 35)), none⟩,
        ⟨(some 37), (.load1 (.t 36)), none⟩,
        ⟨(some 38), (.mov (.t 0)), none⟩,
        ⟨(some 39), (.nilck (.t 38)), none⟩,
        ⟨(some 40), (.fldA 1 (.t 39)), none⟩,
        ⟨(some 41), (.load1 (.t 40)), none⟩,
        ⟨(some 42), (.idx (.t 37) (.t 41)), none⟩,
        ⟨(some 4), (.mov (.t 42)), none⟩])
      (.seq
       (.ops [
         ⟨(some 43), (.mov (.t 0)), none⟩,
         ⟨(some 44), (.nilck (.t 43)), none⟩,
         ⟨(some 45), (.fldA 1 (.t 44)), none⟩,
         ⟨(some 46), (.load1 (.t 45)), none⟩,
         ⟨(some 47), (.bin .add (.t 46) (.c (.int .i64 1))), none⟩,
         ⟨(some 48), (.nilck (.t 43)), none⟩,
         ⟨(some 49), (.fldA 1 (.t 48)), none⟩,
         ⟨none, (.store 1 (.t 49) (.t 47)), none⟩])
       (.seq
        (.seq
         (.ops [
           ⟨(some 50), (.mov (.t 4)), none⟩,
           ⟨(some 51), (.call (.f 41) [(.c (.str [34, 92, 47, 98, 102, 110, 114, 116])), (.t 50)]), none⟩,
           ⟨(some 5), (.mov (.t 51)), none⟩])
         (.seq
          (.ops [
            ⟨(some 52), (.mov (.t 5)), none⟩,
            ⟨(some 53), (.bin .geq (.t 52) (.c (.int .i64 0))), none⟩])
          (.cond (.t 53)
           (.seq
            (.ops [
              ⟨(some 54), (.mov (.t 5)), none⟩,
              ⟨(some 55), (.idx (.c (.str [34, 92, 47, 8, 12, 10, 13, 9])) (.t 54)), none⟩,
              ⟨(some 56), (.cvInt .i32 (.t 55)), none⟩,
              ⟨(some 2), (.mov (.t 56)), none⟩])
            .ret)
           .skip)))
        (.seq
         (.seq
          (.ops [
            ⟨(some 57), (.mov (.t 4)), none⟩,
            ⟨(some 58), (.bin .neq (.t 57) (.c (.int .u8 117))), none⟩])
          (.cond (.t 58)
           (.ops [
             ⟨(some 59), (.mov (.t 3)), none⟩,
             ⟨(some 60), (.call (.f 77) [(.t 59), (.c (.int .i64 2))]), none⟩])
           .skip))
         (.seq
          (.ops [
            ⟨(some 6), (.mov (.c (.int .i32 0))), none⟩])
          (.seq
           (.seq
            (.ops [
              ⟨(some 61), (.mov (.c (.int .i64 0))), none⟩])
            (.block 0
             (.loop
              (.seq
               (.ops [
                 ⟨(some 62), (.bin .lss (.t 61) (.c (.int .i64 4))), none⟩])
               (.seq
                (.cond (.t 62)
                 .skip
                 (.exit 0))
                (.seq
                 (.block 1
                  (.seq
                   (.seq
                    (.draw [
                      ⟨(some 63), (.mov (.t 0)), none⟩,
                      ⟨(some 64), (.nilck (.t 63)), none⟩,
                      ⟨(some 65), (.fldA 1 (.t 64)), none⟩,
                      ⟨(some 66), (.load1 (.t 65)), none⟩,
                      ⟨(some 67), (.mov (.t 0)), none⟩,
                      ⟨(some 68), (.nilck (.t 67)), none⟩,
                      ⟨(some 69), (.fldA 0 (.t 68)), none⟩,
                      ⟨(some 70), (.load1 (.t 69)), none⟩,
                      ⟨(some 71), (.lenS (.t 70)), none⟩,
                      ⟨(some 72), (.bin .eql (.t 66) (.t 71)), none⟩])
                    (.cond (.t 72)
                     (.ops [
                       ⟨(some 73), (.mov (.t 0)), none⟩,
                       ⟨(some 74), (.nilck (.t 73)), none⟩,
                       ⟨(some 75), (.fldA 1 (.t 74)), none⟩,
                       ⟨(some 76), (.load1 (.t 75)), none⟩,
                       ⟨(some 77), (.call (.f 77) [(.t 76), (.c (.int .i64 2))]), none⟩])
                     .skip))
                   (.seq
                    (.drawE [
                      ⟨(some 78), (.mov (.t 0)), none⟩,
                      ⟨(some 79), (.nilck (.t 78)), none⟩,
                      ⟨(some 80), (.fldA 0 (.t 79)), none⟩,
                      ⟨(some 81), (.load1 (.t 80)), none⟩,
                      ⟨(some 82), (.mov (.t 0)), none⟩,
                      ⟨(some 83), (.nilck (.t 82)), none⟩,
                      ⟨(some 84), (.fldA 1 (.t 83)), none⟩,
                      ⟨(some 85), (.load1 (.t 84)), none⟩,
                      ⟨(some 86), (.idx (.t 81) (.t 85)), none⟩,
                      ⟨(some 87), (.bin .or (.t 86) (.c (.int .u8 32))), none⟩,
                      ⟨(some 88), (.pcall (.f 41) [(.c (.str [48, 49, 50, 51, 52, 53, 54, 55, 56, 57, 97, 98, 99, 100, 101, 102])), (.t 87)]), none⟩,
                      ⟨(some 7), (.mov (.t 88)), none⟩])
                    (.seq
                     (.seq
                      (.draw [
                        ⟨(some 89), (.mov (.t 7)), none⟩,
                        ⟨(some 90), (.bin .lss (.t 89) (.c (.int .i64 0))), none⟩,
                        ⟨(some 91), (.mov (.t 90)), none⟩,
                        ⟨(some 92), (.mov (.t 0)), (some (91, false))⟩,
                        ⟨(some 93), (.nilck (.t 92)), (some (91, false))⟩,
                        ⟨(some 94), (.fldA 0 (.t 93)), (some (91, false))⟩,
                        ⟨(some 95), (.load1 (.t 94)), (some (91, false))⟩,
                        ⟨(some 96), (.mov (.t 0)), (some (91, false))⟩,
                        ⟨(some 97), (.nilck (.t 96)), (some (91, false))⟩,
                        ⟨(some 98), (.fldA 1 (.t 97)), (some (91, false))⟩,
                        ⟨(some 99), (.load1 (.t 98)), (some (91, false))⟩,
                        ⟨(some 100), (.idx (.t 95) (.t 99)), (some (91, false))⟩,
                        ⟨(some 101), (.bin .lss (.t 100) (.c (.int .u8 48))), (some (91, false))⟩,
                        ⟨(some 102), (.pick (.t 91) (.c (.bool true)) (.t 101)), none⟩])
                      (.cond (.t 102)
                       (.ops [
                         ⟨(some 103), (.mov (.t 3)), none⟩,
                         ⟨(some 104), (.call (.f 77) [(.t 103), (.c (.int .i64 2))]), none⟩])
                       .skip))
                     (.seq
                      (.ops [
                        ⟨(some 105), (.mov (.t 6)), none⟩,
                        ⟨(some 106), (.bin .shl (.t 105) (.c (.int .u64 4))), none⟩,
                        ⟨(some 107), (.mov (.t 7)), none⟩,
                        ⟨(some 108), (.cvInt .i32 (.t 107)), none⟩,
                        ⟨(some 109), (.bin .or (.t 106) (.t 108)), none⟩,
                        ⟨(some 6), (.mov (.t 109)), none⟩])
                      (.ops [
                        ⟨(some 110), (.mov (.t 0)), none⟩,
                        ⟨(some 111), (.nilck (.t 110)), none⟩,
                        ⟨(some 112), (.fldA 1 (.t 111)), none⟩,
                        ⟨(some 113), (.load1 (.t 112)), none⟩,
                        ⟨(some 114), (.bin .add (.t 113) (.c (.int .i64 1))), none⟩,
                        ⟨(some 115), (.nilck (.t 110)), none⟩,
                        ⟨(some 116), (.fldA 1 (.t 115)), none⟩,
                        ⟨none, (.store 1 (.t 116) (.t 114)), none⟩]))))))
                 (.ops [
                   ⟨(some 117), (.bin .add (.t 61) (.c (.int .i64 1))), none⟩,
                   ⟨(some 61), (.mov (.t 117)), none⟩])))))))
           (.seq
            (.seq
             (.ops [
               ⟨(some 118), (.mov (.t 6)), none⟩,
               ⟨(some 119), (.bin .geq (.t 118) (.c (.int .i32 55296))), none⟩,
               ⟨(some 120), (.mov (.t 119)), none⟩,
               ⟨(some 121), (.mov (.t 6)), (some (120, true))⟩,
               ⟨(some 122), (.bin .leq (.t 121) (.c (.int .i32 57343))), (some (120, true))⟩,
               ⟨(some 123), (.pick (.t 120) (.t 122) (.c (.bool false))), none⟩])
             (.cond (.t 123)
              (.ops [
                ⟨(some 124), (.mov (.t 3)), none⟩,
                ⟨(some 125), (.call (.f 77) [(.t 124), (.c (.int .i64 2))]), none⟩])
              .skip))
            (.seq
             (.ops [
               ⟨(some 126), (.mov (.t 6)), none⟩,
               ⟨(some 2), (.mov (.t 126)), none⟩])
             .ret))))))))))))

section
variable {E : Env}
theorem escape_tp (hP : E.P = Tryz.prog) (s : List UInt8) (o : Nat) (hs : s.length ≤ 1000000) (ho : o < s.length) : XTP E 122 [.ptr 0 0 0] [rdB s o]
    (fun r L' => ∃ c i : Nat, Fr.escape s o = .ok (c, i) ∧ o < i ∧ i ≤ s.length ∧ c < 65536 ∧ r = .int .i32 c ∧ L' = [rdB s i])
    (fun r L' => ∃ p w j, Fr.escape s o = .error (p, w) ∧ r = stopV p w ∧ L' = [rdB s j]) := by
  refine xtp_of_fun (F := ⟨Tryz.f122.ntmps, [.tmp 2], y117⟩) (pq := fun x L' => ∃ p w j, Fr.escape s o = .error (p, w) ∧ x = stopV p w ∧ L' = [rdB s j]) (fun x L' h => ?_) (by rw [hP]; rfl) (by rw [hP]; kernel_rfl) (by decide) (Nat.le_of_ble_eq_true rfl) ?_
  · obtain ⟨p, w, j, h1, rfl, rfl⟩ := h
    exact leave_all (keep := []) (n := 1) .nil (by simp) rfl rfl ⟨p, w, j, h1, rfl, rfl⟩
  refine xfun1 (xrun_mono (K := doneK fun ρ L' => ∃ c i : Nat, Fr.escape s o = .ok (c, i) ∧ o < i ∧ i ≤ s.length ∧ c < 65536 ∧ ρ 2 = .int .i32 c ∧ L' = [rdB s i]) _ (fun e ρ L h => ?_) ?_)
  · cases e with
    | normal => obtain ⟨v, i, h1, g1, g2, g3, h2, rfl⟩ := h; exact leave_all (keep := []) (n := 1) .nil (by simp) (by rw [h2]; rfl) rfl ⟨v, i, h1, g1, g2, g3, rfl, rfl⟩
    | ret => obtain ⟨v, i, h1, g1, g2, g3, h2, rfl⟩ := h; exact leave_all (keep := []) (n := 1) .nil (by simp) (by rw [h2]; rfl) rfl ⟨v, i, h1, g1, g2, g3, rfl, rfl⟩
    | exit => exact h.elim
    | goto => exact h.elim
  generalize hρ : entry _ = ρ
  have h0 : ρ 0 = .ptr 0 0 0 := by rw [← hρ]; rfl
  clear hρ
  unfold y117
  have hw1 : IntKind.i64.wrap ((o : Int) + 1) = ((o + 1 : Nat) : Int) := by rw [wrap64 (by omega) (by omega)]; rfl
  simp only [h0, rdB, hw1, go_sem, Nat.reduceEqDiff, reduceIte, Int.reduceEq, Int.reduceLT, Int.reduceLE, Nat.reduceAdd, Nat.reduceLT, Nat.reduceLeDiff, Int.reduceToNat, Int.reduceSub, Int.reduceAdd, Int.reduceNeg]
  refine ⟨by rfl, ?_⟩
  have heq : (((o + 1 : Nat) : Int) = (s.length : Int)) = (o + 1 = s.length) := propext ⟨fun h => by omega, fun h => by omega⟩
  simp only [h0, heq, go_sem, Nat.reduceEqDiff, reduceIte, Int.reduceEq, Int.reduceLT, Int.reduceLE, Nat.reduceAdd, Nat.reduceLT, Nat.reduceLeDiff, Int.reduceToNat, Int.reduceSub, Int.reduceAdd, Int.reduceNeg]
  refine s_cond (b := decide (o + 1 = s.length)) (by simp only [h0, go_sem, Nat.reduceEqDiff, reduceIte, Int.reduceEq, Int.reduceLT, Int.reduceLE, Nat.reduceAdd, Nat.reduceLT, Nat.reduceLeDiff, Int.reduceToNat, Int.reduceSub, Int.reduceAdd, Int.reduceNeg]; try rfl) ?_ ?_ <;> intro hc <;> simp only [hc, h0, go_sem, Nat.reduceEqDiff, reduceIte, Int.reduceEq, Int.reduceLT, Int.reduceLE, Nat.reduceAdd, Nat.reduceLT, Nat.reduceLeDiff, Int.reduceToNat, Int.reduceSub, Int.reduceAdd, Int.reduceNeg]
  · have hc' : o + 1 = s.length := by simpa using hc
    refine fail_callQ hP _ _ ?_
    refine ⟨o + 1, 2, o + 1, ?_, rfl, rfl⟩
    unfold Fr.escape; rw [if_pos hc']; rfl
  have hc' : ¬ o + 1 = s.length := by simpa using hc
  refine ⟨by rfl, ?_⟩
  have hw2 : IntKind.i64.wrap (((o + 1 : Nat) : Int) + 1) = ((o + 2 : Nat) : Int) := by rw [wrap64 (by omega) (by omega)]; omega
  have e1 : (((o + 1 : Nat) : Int) < (s.length : Int)) = True := eq_true (by omega)
  have e0 : ((0 : Int) ≤ ((o + 1 : Nat) : Int)) = True := eq_true (by omega)
  simp only [h0, hw2, e1, e0, go_sem, Nat.reduceEqDiff, reduceIte, Int.reduceEq, Int.reduceLT, Int.reduceLE, Nat.reduceAdd, Nat.reduceLT, Nat.reduceLeDiff, Int.reduceToNat, Int.reduceSub, Int.reduceAdd, Int.reduceNeg]
  refine xcall_pure (args' := [.str Fr.escL, .int .u8 (s.getD (o + 1) 0).toNat]) rfl (indexByte_pure (E := E.withPan _) hP Fr.escL (s.getD (o + 1) 0)) rfl ?_
  have hip := idx_place Fr.escL (s.getD (o + 1) 0)
  simp only [h0, go_sem, Nat.reduceEqDiff, reduceIte, Int.reduceEq, Int.reduceLT, Int.reduceLE, Nat.reduceAdd, Nat.reduceLT, Nat.reduceLeDiff, Int.reduceToNat, Int.reduceSub, Int.reduceAdd, Int.reduceNeg]
  refine xrun_forget (fun ρ => ρ 0 = .ptr 0 0 0 ∧ ρ 3 = .int .i64 o ∧ ρ 4 = .int .u8 (s.getD (o + 1) 0).toNat ∧ ρ 5 = .int .i64 (Lib.indexByte Fr.escL (s.getD (o + 1) 0)) ∧ ρ 53 = .bool (decide (0 ≤ Lib.indexByte Fr.escL (s.getD (o + 1) 0)))) ⟨by simp only [h0, go_sem, Nat.reduceEqDiff, reduceIte, Int.reduceEq, Int.reduceLT, Int.reduceLE, Nat.reduceAdd, Nat.reduceLT, Nat.reduceLeDiff, Int.reduceToNat, Int.reduceSub, Int.reduceAdd, Int.reduceNeg]; try rfl, by simp only [h0, go_sem, Nat.reduceEqDiff, reduceIte, Int.reduceEq, Int.reduceLT, Int.reduceLE, Nat.reduceAdd, Nat.reduceLT, Nat.reduceLeDiff, Int.reduceToNat, Int.reduceSub, Int.reduceAdd, Int.reduceNeg]; try rfl, by simp only [h0, go_sem, Nat.reduceEqDiff, reduceIte, Int.reduceEq, Int.reduceLT, Int.reduceLE, Nat.reduceAdd, Nat.reduceLT, Nat.reduceLeDiff, Int.reduceToNat, Int.reduceSub, Int.reduceAdd, Int.reduceNeg]; try rfl, by simp only [h0, go_sem, Nat.reduceEqDiff, reduceIte, Int.reduceEq, Int.reduceLT, Int.reduceLE, Nat.reduceAdd, Nat.reduceLT, Nat.reduceLeDiff, Int.reduceToNat, Int.reduceSub, Int.reduceAdd, Int.reduceNeg]; try rfl, by simp only [h0, go_sem, Nat.reduceEqDiff, reduceIte, Int.reduceEq, Int.reduceLT, Int.reduceLE, Nat.reduceAdd, Nat.reduceLT, Nat.reduceLeDiff, Int.reduceToNat, Int.reduceSub, Int.reduceAdd, Int.reduceNeg]; try rfl⟩ ?_; clear h0 ρ; rintro ρ ⟨h0, h3, h4, h5, h53⟩
  cases hpl : Fr.place Fr.escL (s.getD (o + 1) 0) with
  | some k =>
    rw [hpl] at hip
    have hk := place_lt hpl
    have hk8 : k < 8 := hk
    have hge : (0 ≤ Lib.indexByte Fr.escL (s.getD (o + 1) 0)) = True := eq_true (by rw [hip]; simp)
    have e3 : ((0:Int) ≤ (k : Int)) = True := eq_true (by omega)
    have e4 : ((k:Int) < 8) = True := eq_true (by omega)
    refine s_cond (b := true) (by simp only [h53, hge, go_sem, Nat.reduceEqDiff, reduceIte, Int.reduceEq, Int.reduceLT, Int.reduceLE, Nat.reduceAdd, Nat.reduceLT, Nat.reduceLeDiff, Int.reduceToNat, Int.reduceSub, Int.reduceAdd, Int.reduceNeg]; try rfl) ?_ ?_ <;> intro hc <;> simp only [h0, h5, hip, e3, e4, go_sem, Nat.reduceEqDiff, reduceIte, Int.reduceEq, Int.reduceLT, Int.reduceLE, Nat.reduceAdd, Nat.reduceLT, Nat.reduceLeDiff, Int.reduceToNat, Int.reduceSub, Int.reduceAdd, Int.reduceNeg]
    · have hlt := (Fr.escR.getD k 0).toNat_lt
      refine ⟨(Fr.escR.getD k 0).toNat, o + 2, ?_, by omega, by omega, by omega, ?_, rfl⟩
      · unfold Fr.escape
        rw [if_neg hc', hpl]
      · show IV.int .i32 (IntKind.i32.wrap ((Fr.escR.getD k 0).toNat : Int)) = _
        rw [show IntKind.i32.wrap ((Fr.escR.getD k 0).toNat : Int) = ((Fr.escR.getD k 0).toNat : Int) from by rw [IntKind.wrap_i32]; omega]
    · cases hc
  | none =>
    rw [hpl] at hip
    have hge : (0 ≤ Lib.indexByte Fr.escL (s.getD (o + 1) 0)) = False := eq_false (by rw [hip]; simp)
    refine s_cond (b := false) (by simp only [h53, hge, go_sem, Nat.reduceEqDiff, reduceIte, Int.reduceEq, Int.reduceLT, Int.reduceLE, Nat.reduceAdd, Nat.reduceLT, Nat.reduceLeDiff, Int.reduceToNat, Int.reduceSub, Int.reduceAdd, Int.reduceNeg]; try rfl) ?_ ?_ <;> intro hc <;> simp only [h0, h4, h3, go_sem, Nat.reduceEqDiff, reduceIte, Int.reduceEq, Int.reduceLT, Int.reduceLE, Nat.reduceAdd, Nat.reduceLT, Nat.reduceLeDiff, Int.reduceToNat, Int.reduceSub, Int.reduceAdd, Int.reduceNeg]
    · cases hc
    have heq2 : (((s.getD (o + 1) 0).toNat : Int) = 117) = (s.getD (o + 1) 0 = 117) := propext ⟨fun h => UInt8.toNat_inj.1 (by have : (117 : UInt8).toNat = 117 := rfl; omega), fun h => by rw [h]; rfl⟩
    refine s_cond (b := !decide (s.getD (o + 1) 0 = 117)) (by simp only [h4, heq2, go_sem, Nat.reduceEqDiff, reduceIte, Int.reduceEq, Int.reduceLT, Int.reduceLE, Nat.reduceAdd, Nat.reduceLT, Nat.reduceLeDiff, Int.reduceToNat, Int.reduceSub, Int.reduceAdd, Int.reduceNeg]; try rfl) ?_ ?_ <;> intro hc <;> simp only [h0, h4, h3, go_sem, Nat.reduceEqDiff, reduceIte, Int.reduceEq, Int.reduceLT, Int.reduceLE, Nat.reduceAdd, Nat.reduceLT, Nat.reduceLeDiff, Int.reduceToNat, Int.reduceSub, Int.reduceAdd, Int.reduceNeg]
    · have hne : ¬ s.getD (o + 1) 0 = 117 := by simpa using hc
      refine fail_callQ hP _ _ ?_
      refine ⟨o, 2, o + 2, ?_, rfl, rfl⟩
      unfold Fr.escape; rw [if_neg hc', hpl]
      simp only [if_neg hne]; rfl
    have hu : s.getD (o + 1) 0 = 117 := by simpa using hc
    have hesc : Fr.escape s o = (match Fr.hex4 s o 4 (o + 2) 0 with
        | .error e => .error e
        | .ok (c, i) => if 55296 ≤ c ∧ c ≤ 57343 then .error (o, Fr.form) else .ok (c, i)) := by
      unfold Fr.escape; rw [if_neg hc', hpl]
      simp only [if_pos hu]; rfl
    refine xrun_cut (fun e ρ' L' => e = .exit 0 ∧ ∃ c : Nat, Fr.hex4 s o 4 (o + 2) 0 = .ok (c, o + 6) ∧ c < 65536 ∧ o + 6 ≤ s.length ∧ L' = [rdB s (o + 6)] ∧ ρ' 0 = .ptr 0 0 0 ∧ ρ' 3 = .int .i64 o ∧ ρ' 6 = .int .i32 c) ?_ ?_
    rotate_left
    · rintro e ρ L ⟨rfl, c, hh, g1, g2, rfl, h0, h3, h6⟩
      rw [hh] at hesc
      simp only at hesc
      by_cases g3 : 55296 ≤ c
      · have f1 : ((55296 : Int) ≤ (c : Int)) = True := eq_true (by omega)
        by_cases g4 : c ≤ 57343
        · have f2 : ((c : Int) ≤ 57343) = True := eq_true (by omega)
          simp only [h0, h3, h6, f1, f2, go_sem, Nat.reduceEqDiff, reduceIte, Int.reduceEq, Int.reduceLT, Int.reduceLE, Nat.reduceAdd, Nat.reduceLT, Nat.reduceLeDiff, Int.reduceToNat, Int.reduceSub, Int.reduceAdd, Int.reduceNeg]
          refine fail_callQ hP _ _ ?_
          exact ⟨o, 2, o + 6, by rw [hesc, if_pos ⟨g3, g4⟩]; rfl, rfl, rfl⟩
        · have f2 : ((c : Int) ≤ 57343) = False := eq_false (by omega)
          simp only [h0, h3, h6, f1, f2, go_sem, Nat.reduceEqDiff, reduceIte, Int.reduceEq, Int.reduceLT, Int.reduceLE, Nat.reduceAdd, Nat.reduceLT, Nat.reduceLeDiff, Int.reduceToNat, Int.reduceSub, Int.reduceAdd, Int.reduceNeg]
          exact ⟨c, o + 6, by rw [hesc, if_neg (fun h => g4 h.2)], by omega, g2, g1, rfl, rfl⟩
      · have f1 : ((55296 : Int) ≤ (c : Int)) = False := eq_false (by omega)
        simp only [h0, h3, h6, f1, go_sem, Nat.reduceEqDiff, reduceIte, Int.reduceEq, Int.reduceLT, Int.reduceLE, Nat.reduceAdd, Nat.reduceLT, Nat.reduceLeDiff, Int.reduceToNat, Int.reduceSub, Int.reduceAdd, Int.reduceNeg]
        exact ⟨c, o + 6, by rw [hesc, if_neg (fun h => g3 h.1)], by omega, g2, g1, rfl, rfl⟩
    refine s_loop (fun n ρ L => ∃ m c : Nat, n = 4 - m ∧ m ≤ 4 ∧ c < 16 ^ m ∧ o + 2 + m ≤ s.length ∧ Fr.hex4 s o (4 - m) (o + 2 + m) c = Fr.hex4 s o 4 (o + 2) 0 ∧ L = [rdB s (o + 2 + m)] ∧ ρ 0 = .ptr 0 0 0 ∧ ρ 3 = .int .i64 o ∧ ρ 6 = .int .i32 c ∧ ρ 61 = .int .i64 m)
      (n := 4) ⟨0, 0, rfl, by omega, by omega, by omega, rfl, rfl, by simp only [h0, go_sem, Nat.reduceEqDiff, reduceIte, Int.reduceEq, Int.reduceLT, Int.reduceLE, Nat.reduceAdd, Nat.reduceLT, Nat.reduceLeDiff, Int.reduceToNat, Int.reduceSub, Int.reduceAdd, Int.reduceNeg], by simp only [h3, go_sem, Nat.reduceEqDiff, reduceIte, Int.reduceEq, Int.reduceLT, Int.reduceLE, Nat.reduceAdd, Nat.reduceLT, Nat.reduceLeDiff, Int.reduceToNat, Int.reduceSub, Int.reduceAdd, Int.reduceNeg], by simp only [go_sem, Nat.reduceEqDiff, reduceIte, Int.reduceEq, Int.reduceLT, Int.reduceLE, Nat.reduceAdd, Nat.reduceLT, Nat.reduceLeDiff, Int.reduceToNat, Int.reduceSub, Int.reduceAdd, Int.reduceNeg]; try rfl, by simp only [go_sem, Nat.reduceEqDiff, reduceIte, Int.reduceEq, Int.reduceLT, Int.reduceLE, Nat.reduceAdd, Nat.reduceLT, Nat.reduceLeDiff, Int.reduceToNat, Int.reduceSub, Int.reduceAdd, Int.reduceNeg]; try rfl⟩ ?_
    clear h0 h3 h4 h5 h53 ρ
    rintro n ρ L ⟨m, c, rfl, hm, hc16, hlen, hgo, rfl, h0, h3, h6, h61⟩
    by_cases hm4 : m = 4
    · subst hm4
      simp only [h61, h0, h3, h6, go_sem, Nat.reduceEqDiff, reduceIte, Int.reduceEq, Int.reduceLT, Int.reduceLE, Nat.reduceAdd, Nat.reduceLT, Nat.reduceLeDiff, Int.reduceToNat, Int.reduceSub, Int.reduceAdd, Int.reduceNeg]
      exact ⟨c, hgo.symm, by omega, hlen, rfl⟩
    have f1 : ((m : Int) < 4) = True := eq_true (by omega)
    simp only [h61, h0, h3, h6, f1, rdB, go_sem, Nat.reduceEqDiff, reduceIte, Int.reduceEq, Int.reduceLT, Int.reduceLE, Nat.reduceAdd, Nat.reduceLT, Nat.reduceLeDiff, Int.reduceToNat, Int.reduceSub, Int.reduceAdd, Int.reduceNeg]
    refine ⟨by rfl, ?_⟩
    have f2 : (((o + 2 + m : Nat) : Int) = (s.length : Int)) = (o + 2 + m = s.length) := propext ⟨fun h => by omega, fun h => by omega⟩
    obtain ⟨kk, hk⟩ : ∃ k, 4 - m = k + 1 := ⟨3 - m, by omega⟩
    rw [hk, Fr.hex4] at hgo
    simp only [h0, f2, go_sem, Nat.reduceEqDiff, reduceIte, Int.reduceEq, Int.reduceLT, Int.reduceLE, Nat.reduceAdd, Nat.reduceLT, Nat.reduceLeDiff, Int.reduceToNat, Int.reduceSub, Int.reduceAdd, Int.reduceNeg]
    refine s_cond (b := decide (o + 2 + m = s.length)) (by simp only [h0, go_sem, Nat.reduceEqDiff, reduceIte, Int.reduceEq, Int.reduceLT, Int.reduceLE, Nat.reduceAdd, Nat.reduceLT, Nat.reduceLeDiff, Int.reduceToNat, Int.reduceSub, Int.reduceAdd, Int.reduceNeg]; try rfl) ?_ ?_ <;> intro hc <;> simp only [hc, h0, go_sem, Nat.reduceEqDiff, reduceIte, Int.reduceEq, Int.reduceLT, Int.reduceLE, Nat.reduceAdd, Nat.reduceLT, Nat.reduceLeDiff, Int.reduceToNat, Int.reduceSub, Int.reduceAdd, Int.reduceNeg]
    · have hl : o + 2 + m = s.length := by simpa using hc
      rw [if_pos hl] at hgo
      refine fail_callQ hP _ _ ?_
      exact ⟨o + 2 + m, 2, _, by rw [hesc, ← hgo]; rfl, rfl, rfl⟩
    have hl : ¬ o + 2 + m = s.length := by simpa using hc
    rw [if_neg hl] at hgo
    have e1 : (((o + 2 + m : Nat) : Int) < (s.length : Int)) = True := eq_true (by omega)
    have e0 : ((0 : Int) ≤ ((o + 2 + m : Nat) : Int)) = True := eq_true (by omega)
    have hor := u8_or (s.getD (o + 2 + m) 0)
    simp only [h0, e1, e0, hor, go_sem, Nat.reduceEqDiff, reduceIte, Int.reduceEq, Int.reduceLT, Int.reduceLE, Nat.reduceAdd, Nat.reduceLT, Nat.reduceLeDiff, Int.reduceToNat, Int.reduceSub, Int.reduceAdd, Int.reduceNeg]
    refine o_pcall (args' := [.str Fr.hexD, .int .u8 (s.getD (o + 2 + m) 0 ||| 32).toNat]) rfl (indexByte_pure (E := E.withPan _) hP Fr.hexD (s.getD (o + 2 + m) 0 ||| 32)) (fun m => rfl) ?_
    have hip := idx_place Fr.hexD (s.getD (o + 2 + m) 0 ||| 32)
    cases hpl : Fr.place Fr.hexD (s.getD (o + 2 + m) 0 ||| 32) with
    | none =>
      rw [hpl] at hip hgo
      simp only at hip hgo
      simp only [h0, h3, hip, go_sem, Nat.reduceEqDiff, reduceIte, Int.reduceEq, Int.reduceLT, Int.reduceLE, Nat.reduceAdd, Nat.reduceLT, Nat.reduceLeDiff, Int.reduceToNat, Int.reduceSub, Int.reduceAdd, Int.reduceNeg]
      refine ⟨by rfl, ?_⟩
      refine fail_callQ hP _ _ ?_
      exact ⟨o, 2, _, by rw [hesc, ← hgo]; rfl, rfl, rfl⟩
    | some k =>
      rw [hpl] at hip hgo
      simp only at hip hgo
      have hk16 : k < 16 := place_lt hpl
      have f3 : ((k : Int) < 0) = False := eq_false (by omega)
      have g48 : (s.getD (o + 2 + m) 0 < 48) = ((s.getD (o + 2 + m) 0).toNat < 48) := propext UInt8.lt_iff_toNat_lt
      have hw3 : IntKind.i64.wrap (((o + 2 + m : Nat) : Int) + 1) = ((o + 2 + (m + 1) : Nat) : Int) := by rw [wrap64 (by omega) (by omega)]; omega
      have hw4 : IntKind.i64.wrap ((m : Int) + 1) = ((m + 1 : Nat) : Int) := by rw [wrap64 (by omega) (by omega)]; omega
      have hc4 : c < 4096 := Nat.lt_of_lt_of_le hc16 (Nat.pow_le_pow_right (by omega) (show m ≤ 3 by omega))
      by_cases hlt : s.getD (o + 2 + m) 0 < 48
      · rw [if_pos hlt] at hgo
        rw [g48] at hlt
        have f4 : (((s.getD (o + 2 + m) 0).toNat : Int) < 48) = True := eq_true (by omega)
        simp only [h0, h3, hip, f3, e1, f4, go_sem, Nat.reduceEqDiff, reduceIte, Int.reduceEq, Int.reduceLT, Int.reduceLE, Nat.reduceAdd, Nat.reduceLT, Nat.reduceLeDiff, Int.reduceToNat, Int.reduceSub, Int.reduceAdd, Int.reduceNeg]
        refine ⟨by rfl, ?_⟩
        refine fail_callQ hP _ _ ?_
        exact ⟨o, 2, _, by rw [hesc, ← hgo]; rfl, rfl, rfl⟩
      · rw [if_neg hlt] at hgo
        rw [g48] at hlt
        have f4 : (((s.getD (o + 2 + m) 0).toNat : Int) < 48) = False := eq_false (by omega)
        simp only [h0, h3, h6, h61, hip, f3, e1, f4, hw3, hw4, go_sem, Nat.reduceEqDiff, reduceIte, Int.reduceEq, Int.reduceLT, Int.reduceLE, Nat.reduceAdd, Nat.reduceLT, Nat.reduceLeDiff, Int.reduceToNat, Int.reduceSub, Int.reduceAdd, Int.reduceNeg]
        refine ⟨by rfl, ?_⟩
        refine ⟨4 - (m + 1), by omega, m + 1, c * 16 + k, rfl, by omega, ?_, by omega, ?_, rfl, ?_⟩
        · rw [Nat.pow_succ]; omega
        · rw [← hgo, show 4 - (m + 1) = kk by omega]; rfl
        · exact ⟨congrArg _ (i32_or c k hc4 hk16), rfl⟩
end
end Go.X.TryzW
end
