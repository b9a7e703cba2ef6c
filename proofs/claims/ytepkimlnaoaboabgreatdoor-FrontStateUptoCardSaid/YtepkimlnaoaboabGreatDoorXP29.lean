/- Parts of the proof: Xgrepl3, Xgstate1, Xgstate2, Xgstate3, Xgstate4. -/
import Derived.Test.YtepkimlnaoaboabGreatDoorXP28
set_option linter.unusedVariables false
set_option linter.unusedSimpArgs false
set_option linter.unusedSectionVars false
section
open Go Go.X Go.Proofs
set_option maxRecDepth 100000
set_option maxHeartbeats 4000000
set_option linter.unusedSimpArgs false
set_option linter.unusedVariables false
namespace Go.X.TryzW
/- "tiller/tillerref13.Quote" params { toList := [9] } results { toList := [Go.ResultVar.tmp 2] } -/
def q8 : XC :=
 (.seq
  (.ops [
    ⟨(some 2), (.mov (.c (.str []))), none⟩])
  (.seq
   (.ops [
     ⟨(some 7), (.bslice 1 [(.int .u8 0)] 1 [(0, (.c (.int .u8 34)))]), none⟩,
     ⟨(some 3), (.mov (.t 7)), none⟩])
   (.seq
    (.seq
     (.ops [
       ⟨(some 4), (.mov (.c (.int .i64 0))), none⟩])
     (.block 0
      (.loop
       (.seq
        (.seq
         (.ops [
           ⟨(some 8), (.mov (.t 4)), none⟩,
           ⟨(some 9), (.mov (.t 0)), none⟩,
           ⟨(some 10), (.lenS (.t 9)), none⟩,
           ⟨(some 11), (.bin .lss (.t 8) (.t 10)), none⟩])
         (.cond (.t 11)
          .skip
          (.exit 0)))
        (.block 1
         (.seq
          (.ops [
            ⟨(some 12), (.mov (.t 0)), none⟩,
            ⟨(some 13), (.mov (.t 4)), none⟩,
            ⟨(some 14), (.call (.f 25) [(.t 12), (.t 13)]), none⟩,
            ⟨(some 5), (.mov (.t 14)), none⟩])
          (.seq
           (.ops [
             ⟨(some 15), (.mov (.t 0)), none⟩,
             ⟨(some 16), (.mov (.t 4)), none⟩,
             ⟨(some 17), (.idx (.t 15) (.t 16)), none⟩,
             ⟨(some 6), (.mov (.t 17)), none⟩])
           (.seq
            (.block 2
             (.seq
              (.ops [
                ⟨(some 27), (.mov (.t 5)), none⟩,
                ⟨(some 28), (.bin .eql (.t 27) (.c (.int .i64 0))), none⟩,
                ⟨(some 26), (.mov (.t 28)), none⟩])
              (.cond (.t 26)
               (.seq
                (.ops [
                  ⟨(some 29), (.mov (.t 3)), none⟩,
                  ⟨(some 30), (.ex (.appT 5 1) [(.t 29), (.c (.str [92, 117, 102, 102, 102, 100]))]), none⟩,
                  ⟨(some 3), (.mov (.t 30)), none⟩])
                (.ops [
                  ⟨(some 5), (.mov (.c (.int .i64 1))), none⟩]))
               (.seq
                (.ops [
                  ⟨(some 32), (.mov (.t 6)), none⟩,
                  ⟨(some 33), (.bin .eql (.t 32) (.c (.int .u8 34))), none⟩,
                  ⟨(some 34), (.mov (.t 33)), none⟩,
                  ⟨(some 35), (.mov (.t 6)), (some (34, false))⟩,
                  ⟨(some 36), (.bin .eql (.t 35) (.c (.int .u8 92))), (some (34, false))⟩,
                  ⟨(some 37), (.pick (.t 34) (.c (.bool true)) (.t 36)), none⟩,
                  ⟨(some 31), (.mov (.t 37)), none⟩])
                (.cond (.t 31)
                 (.ops [
                   ⟨(some 38), (.mov (.t 3)), none⟩,
                   ⟨(some 39), (.mov (.t 6)), none⟩,
                   ⟨(some 40), (.bslice 1 [(.int .u8 0)] 2 [(0, (.c (.int .u8 92))), (1, (.t 39))]), none⟩,
                   ⟨(some 41), (.ex (.appT 5 1) [(.t 38), (.t 40)]), none⟩,
                   ⟨(some 3), (.mov (.t 41)), none⟩])
                 (.seq
                  (.ops [
                    ⟨(some 43), (.mov (.t 6)), none⟩,
                    ⟨(some 44), (.bin .eql (.t 43) (.c (.int .u8 8))), none⟩,
                    ⟨(some 42), (.mov (.t 44)), none⟩])
                  (.cond (.t 42)
                   (.ops [
                     ⟨(some 45), (.mov (.t 3)), none⟩,
                     ⟨(some 46), (.ex (.appT 5 1) [(.t 45), (.c (.str [92, 98]))]), none⟩,
                     ⟨(some 3), (.mov (.t 46)), none⟩])
                   (.seq
                    (.ops [
                      ⟨(some 48), (.mov (.t 6)), none⟩,
                      ⟨(some 49), (.bin .eql (.t 48) (.c (.int .u8 12))), none⟩,
                      ⟨(some 47), (.mov (.t 49)), none⟩])
                    (.cond (.t 47)
                     (.ops [
                       ⟨(some 50), (.mov (.t 3)), none⟩,
                       ⟨(some 51), (.ex (.appT 5 1) [(.t 50), (.c (.str [92, 102]))]), none⟩,
                       ⟨(some 3), (.mov (.t 51)), none⟩])
                     (.seq
                      (.ops [
                        ⟨(some 53), (.mov (.t 6)), none⟩,
                        ⟨(some 54), (.bin .eql (.t 53) (.c (.int .u8 10))), none⟩,
                        ⟨(some 52), (.mov (.t 54)), none⟩])
                      (.cond (.t 52)
                       (.ops [
                         ⟨(some 55), (.mov (.t 3)), none⟩,
                         ⟨(some 56), (.ex (.appT 5 1) [(.t 55), (.c (.str [92, 110]))]), none⟩,
                         ⟨(some 3), (.mov (.t 56)), none⟩])
                       (.seq
                        (.ops [
                          ⟨(some 58), (.mov (.t 6)), none⟩,
                          ⟨(some 59), (.bin .eql (.t 58) (.c (.int .u8 13))), none⟩,
                          ⟨(some 57), (.mov (.t 59)), none⟩])
                        (.cond (.t 57)
                         (.ops [
                           ⟨(some 60), (.mov (.t 3)), none⟩,
                           ⟨(some 61), (.ex (.appT 5 1) [(.t 60), (.c (.str [92, 114]))]), none⟩,
                           ⟨(some 3), (.mov (.t 61)), none⟩])
                         (.seq
                          (.ops [
                            ⟨(some 63), (.mov (.t 6)), none⟩,
                            ⟨(some 64), (.bin .eql (.t 63) (.c (.int .u8 9))), none⟩,
                            ⟨(some 62), (.mov (.t 64)), none⟩])
                          (.cond (.t 62)
                           (.ops [
                             ⟨(some 65), (.mov (.t 3)), none⟩,
                             ⟨(some 66), (.ex (.appT 5 1) [(.t 65), (.c (.str [92, 116]))]), none⟩,
                             ⟨(some 3), (.mov (.t 66)), none⟩])
                           (.seq
                            (.ops [
                              ⟨(some 68), (.mov (.t 6)), none⟩,
                              ⟨(some 69), (.bin .lss (.t 68) (.c (.int .u8 32))), none⟩,
                              ⟨(some 67), (.mov (.t 69)), none⟩])
                            (.cond (.t 67)
                             (.seq
                              (.ops [
                                ⟨(some 70), (.mov (.t 3)), none⟩,
                                ⟨(some 71), (.ex (.appT 5 1) [(.t 70), (.c (.str [92, 117, 48, 48]))]), none⟩,
                                ⟨(some 3), (.mov (.t 71)), none⟩])
                              (.drawE [
                                ⟨(some 72), (.mov (.t 3)), none⟩,
                                ⟨(some 73), (.mov (.t 6)), none⟩,
                                ⟨(some 74), (.bin .quo (.t 73) (.c (.int .u8 16))), none⟩,
                                ⟨(some 75), (.idx (.c (.str [48, 49, 50, 51, 52, 53, 54, 55, 56, 57, 97, 98, 99, 100, 101, 102])) (.t 74)), none⟩,
                                ⟨(some 76), (.mov (.t 6)), none⟩,
                                ⟨(some 77), (.bin .rem (.t 76) (.c (.int .u8 16))), none⟩,
                                ⟨(some 78), (.idx (.c (.str [48, 49, 50, 51, 52, 53, 54, 55, 56, 57, 97, 98, 99, 100, 101, 102])) (.t 77)), none⟩,
                                ⟨(some 79), (.bslice 1 [(.int .u8 0)] 2 [(0, (.t 75)), (1, (.t 78))]), none⟩,
                                ⟨(some 80), (.ex (.appT 5 1) [(.t 72), (.t 79)]), none⟩,
                                ⟨(some 3), (.mov (.t 80)), none⟩]))
                             (.ops [
                               ⟨(some 18), (.mov (.t 3)), none⟩,
                               ⟨(some 19), (.mov (.t 0)), none⟩,
                               ⟨(some 20), (.mov (.t 4)), none⟩,
                               ⟨(some 21), (.mov (.t 4)), none⟩,
                               ⟨(some 22), (.mov (.t 5)), none⟩,
                               ⟨(some 23), (.bin .add (.t 21) (.t 22)), none⟩,
                               ⟨(some 24), (.sliceS (.t 19) (some (.t 20)) (some (.t 23))), none⟩,
                               ⟨(some 25), (.ex (.appT 5 1) [(.t 18), (.t 24)]), none⟩,
                               ⟨(some 3), (.mov (.t 25)), none⟩]))))))))))))))))))
            (.ops [
              ⟨(some 81), (.mov (.t 4)), none⟩,
              ⟨(some 82), (.mov (.t 5)), none⟩,
              ⟨(some 83), (.bin .add (.t 81) (.t 82)), none⟩,
              ⟨(some 4), (.mov (.t 83)), none⟩])))))))))
    (.seq
     (.ops [
       ⟨(some 84), (.mov (.t 3)), none⟩,
       ⟨(some 85), (.bslice 1 [(.int .u8 0)] 1 [(0, (.c (.int .u8 34)))]), none⟩,
       ⟨(some 86), (.ex (.appT 5 1) [(.t 84), (.t 85)]), none⟩,
       ⟨(some 87), (.ex .bStr [(.t 86)]), none⟩,
       ⟨(some 2), (.mov (.t 87)), none⟩])
     .ret))))

section
variable {E : Env} {L : List Blk} {K : IV → List Blk → Prop}
/-- A slice of bytes of ours, full. -/
def Out (L : List Blk) (sv : IV) (bs : List UInt8) : Prop := ∃ t, sv = .sl t 0 bs.length bs.length ∧ t < L.length ∧ (L[t]? = some (.cells 1 (bytesRows bs)) ∨ L[t]? = some (.tcells 5 1 (bytesRows bs)))
theorem Out.app {sv : IV} {bs : List UInt8} {b : Blk} (h : Out L sv bs) : Out (L ++ [b]) sv bs := by
  obtain ⟨t, h1, h2, h3⟩ := h
  refine ⟨t, h1, by rw [List.length_append]; omega, ?_⟩
  rw [List.getElem?_append_left h2]; exact h3
theorem app_out {sv xv : IV} {bs x : List UInt8} {g : Nat} (h : Out L sv bs) (hx : rowsOf L xv = some (bytesRows x)) (hg : g = L.length) (hne : x ≠ []) (hb : bs.length + x.length ≤ 70368744177664)
    (hk : ∀ L' sv', Out L' sv' (bs ++ x) → (0 < L.length → ∀ k, L[0]? = some k → L'[0]? = some k ∨ L'[0]? = some .dead) → K sv' L') : xappT 5 1 sv xv g L K := by
  obtain ⟨t, rfl, ht, h3⟩ := h
  have hz : ∀ (b : Blk), 0 < L.length → ∀ k, L[0]? = some k → (L.set t .dead ++ [b])[0]? = some k ∨ (L.set t .dead ++ [b])[0]? = some .dead := fun b h0 k hk => by
    rw [List.getElem?_append_left (by rw [List.length_set]; exact h0)]
    by_cases h : t = 0
    · subst h; right; exact List.getElem?_set_self h0
    · left; rw [List.getElem?_set_ne h]; exact hk
  rcases h3 with h3 | h3
  · refine appG_cells rfl h3 hx hg hne hb (hk _ _ ⟨g, by rw [List.length_append], by rw [List.length_append, List.length_set, hg]; simp, .inl ?_⟩ (hz _))
    rw [hg, List.getElem?_append_right (by rw [List.length_set]; exact Nat.le_refl _), List.length_set, Nat.sub_self]; rfl
  · refine appG_used rfl h3 hx hg hne hb (hk _ _ ⟨g, by rw [List.length_append], by rw [List.length_append, List.length_set, hg]; simp, .inr ?_⟩ (hz _))
    rw [hg, List.getElem?_append_right (by rw [List.length_set]; exact Nat.le_refl _), List.length_set, Nat.sub_self]; rfl
theorem out_bytes {sv : IV} {bs : List UInt8} (h : Out L sv bs) : (rowsSl L sv).bind (mapO byteOf) = some bs := by
  obtain ⟨t, rfl, ht, h3⟩ := h
  have : rowsSl L (.sl t 0 bs.length bs.length) = some (bytesRows bs) := by
    unfold rowsSl rowsOf
    rcases h3 with h3 | h3
    · simp only [h3]
      rw [if_pos (by rw [bytesRows_len]; omega), List.drop_zero, List.take_of_length_le (by rw [bytesRows_len]; exact Nat.le_refl _)]
    · simp only [h3]
      rw [if_pos (by rw [bytesRows_len]; omega), List.drop_zero, List.take_of_length_le (by rw [bytesRows_len]; exact Nat.le_refl _)]
  rw [this]
  exact bytesRows_of bs
/-! ### The reference's Quote -/
def SQ (s : List UInt8) (i : Nat) (out : List UInt8) : Prop := out ++ quoteGo (s.drop i).length (s.drop i) = 34 :: quoteGo s.length s
theorem ch_none : ∀ c : Fin 32, ¬ (c.val = 8 ∨ c.val = 12 ∨ c.val = 10 ∨ c.val = 13 ∨ c.val = 9) → qL.findIdx? (fun b => decide (b.toNat = c.val)) = none := by decide +kernel
theorem hex_at : ∀ d : Fin 16, (([48, 49, 50, 51, 52, 53, 54, 55, 56, 57, 97, 98, 99, 100, 101, 102] : List UInt8).getD d.val 0) = Fr.hexD.getD d.val 0 := by decide
theorem rquote_pure (hP : E.P = Tryz.prog) (s : List UInt8) (hs : s.length ≤ 4000000) : XPure E 8 [.str s] (.str (quoteF s)) := by
  refine xpure1 (n := Tryz.f8.ntmps) (c := q8) (t := 2) (by rw [hP]; rfl) (by rw [hP]; kernel_rfl) (by decide) (Nat.le_of_ble_eq_true rfl) ?_
  generalize hρ : entry _ = ρ
  have h0 : ρ 0 = .str s := by rw [← hρ]; rfl
  clear hρ
  unfold q8
  simp only [h0, go_sem, Nat.reduceEqDiff, reduceIte, Int.reduceEq, Int.reduceLT, Int.reduceLE, Nat.reduceAdd, Nat.reduceLT, Nat.reduceLeDiff, Int.reduceToNat, Int.reduceSub, Int.reduceAdd, Int.reduceNeg]
  refine xrun_cut (fun e ρ' L' => e = .exit 0 ∧ ∃ sv, ρ' 3 = sv ∧ Out L' sv (34 :: quoteGo s.length s)) ?_ ?_
  rotate_left
  · rintro e ρ L ⟨rfl, sv, h3, hO⟩
    have hql := quoteGo_len _ s (Nat.le_refl _)
    simp only [h3, go_sem, Nat.reduceEqDiff, reduceIte, Int.reduceEq, Int.reduceLT, Int.reduceLE, Nat.reduceAdd, Nat.reduceLT, Nat.reduceLeDiff, Int.reduceToNat, Int.reduceSub, Int.reduceAdd, Int.reduceNeg]
    refine app_out (x := [34]) hO.app (by simp [rowsOf]; rfl) rfl (by simp) (by simp; omega) fun L3 sv3 hO3 _ => ?_
    have hob := out_bytes hO3
    simp only [h3, go_sem, Nat.reduceEqDiff, reduceIte, Int.reduceEq, Int.reduceLT, Int.reduceLE, Nat.reduceAdd, Nat.reduceLT, Nat.reduceLeDiff, Int.reduceToNat, Int.reduceSub, Int.reduceAdd, Int.reduceNeg]
    rw [hob]
    simp only [h3, go_sem, Nat.reduceEqDiff, reduceIte, Int.reduceEq, Int.reduceLT, Int.reduceLE, Nat.reduceAdd, Nat.reduceLT, Nat.reduceLeDiff, Int.reduceToNat, Int.reduceSub, Int.reduceAdd, Int.reduceNeg]
    rfl
  refine s_loop (fun n ρ L => ∃ (i : Nat) (out : List UInt8) (sv : IV), i ≤ s.length ∧ n = s.length - i ∧ ρ 0 = .str s ∧ ρ 3 = sv ∧ ρ 4 = .int .i64 i ∧ Out L sv out ∧ out.length ≤ 6 * i + 1 ∧ SQ s i out) (n := s.length)
    ⟨0, [34], .sl 0 0 1 1, Nat.zero_le _, rfl, by simp only [h0, go_sem, Nat.reduceEqDiff, reduceIte, Int.reduceEq, Int.reduceLT, Int.reduceLE, Nat.reduceAdd, Nat.reduceLT, Nat.reduceLeDiff, Int.reduceToNat, Int.reduceSub, Int.reduceAdd, Int.reduceNeg], by simp only [go_sem, Nat.reduceEqDiff, reduceIte, Int.reduceEq, Int.reduceLT, Int.reduceLE, Nat.reduceAdd, Nat.reduceLT, Nat.reduceLeDiff, Int.reduceToNat, Int.reduceSub, Int.reduceAdd, Int.reduceNeg]; try rfl, by simp only [go_sem, Nat.reduceEqDiff, reduceIte, Int.reduceEq, Int.reduceLT, Int.reduceLE, Nat.reduceAdd, Nat.reduceLT, Nat.reduceLeDiff, Int.reduceToNat, Int.reduceSub, Int.reduceAdd, Int.reduceNeg]; try rfl, ⟨0, rfl, by simp, .inl rfl⟩, by simp, rfl⟩ ?_
  clear h0 ρ
  rintro n ρ L ⟨i, out, sv, hi, rfl, h0, h3, h4, hO, hol, hq⟩
  by_cases hil : i < s.length
  case neg =>
    have e1 : ((i : Int) < (s.length : Int)) = False := eq_false (by omega)
    unfold SQ at hq
    rw [List.drop_of_length_le (by omega)] at hq
    simp only [h0, h3, h4, e1, go_sem, Nat.reduceEqDiff, reduceIte, Int.reduceEq, Int.reduceLT, Int.reduceLE, Nat.reduceAdd, Nat.reduceLT, Nat.reduceLeDiff, Int.reduceToNat, Int.reduceSub, Int.reduceAdd, Int.reduceNeg]
    refine ⟨sv, rfl, ?_⟩
    rw [← hq]; simpa [quoteGo] using hO
  have e1 : ((i : Int) < (s.length : Int)) = True := eq_true (by omega)
  have e0 : ((0 : Int) ≤ (i : Int)) = True := eq_true (by omega)
  have hne : s.drop i ≠ [] := fun h => by have := congrArg List.length h; rw [List.length_drop] at this; simp at this; omega
  have hw := decL_w (s.drop i) hne
  have h4m := decL_le4 (s.drop i)
  have hst := quoteGo_step (s.drop i) hne
  have hcl := quoteCh_len (Lib.decodeL (s.drop i)).1 (Lib.decodeL (s.drop i)).2 (s.drop i) hw.2 hw.1
  unfold SQ at hq
  rw [hst, ← List.append_assoc, List.drop_drop] at hq
  rw [List.length_drop] at hw
  have hut := utf_dec s i hil
  have hby : (s.drop i).getD 0 0 = s.getD i 0 := by rw [List.getD_eq_getElem?_getD, List.getElem?_drop, List.getD_eq_getElem?_getD]; rfl
  have hasc : (s.getD i 0).toNat < 128 → Lib.decodeL (s.drop i) = ((s.getD i 0).toNat, 1) := fun h => by rw [← hby] at h ⊢; exact dec_ascii _ hne h
  have hbig : 128 ≤ (s.getD i 0).toNat → 128 ≤ (Lib.decodeL (s.drop i)).1 := fun h => by
    by_cases hc : (Lib.decodeL (s.drop i)).1 < 128
    · have := dec_lt _ hne hc; rw [hby] at this; omega
    · omega
  simp only [h0, h3, h4, e1, go_sem, Nat.reduceEqDiff, reduceIte, Int.reduceEq, Int.reduceLT, Int.reduceLE, Nat.reduceAdd, Nat.reduceLT, Nat.reduceLeDiff, Int.reduceToNat, Int.reduceSub, Int.reduceAdd, Int.reduceNeg]
  refine xcall_pure (args' := [.str s, .int .i64 i]) rfl (utf8_pure (E := E.noPan) hP s i hil (by omega)) rfl ?_
  rw [hut]
  generalize hd : Lib.decodeL (s.drop i) = d at *
  obtain ⟨c, m⟩ := d
  dsimp only at *
  have hol2 : out.length + (quoteCh c m (s.drop i)).length ≤ 70368744177664 := by omega
  have hw1 : IntKind.i64.wrap ((i : Int) + 1) = ((i + 1 : Nat) : Int) := by rw [wrap64 (by omega) (by omega)]; rfl
  have hwi : IntKind.i64.wrap ((i : Int) + (m : Int)) = ((i + m : Nat) : Int) := by rw [wrap64 (by omega) (by omega)]; rfl
  generalize hbv : s.getD i 0 = b at *
  have hblt := b.toNat_lt
  by_cases hbad : c = 65533 ∧ m = 1
  · obtain ⟨rfl, rfl⟩ := hbad
    have hch : quoteCh 65533 1 (s.drop i) = [92, 117, 102, 102, 102, 100] := if_pos ⟨rfl, rfl⟩
    rw [hch] at hcl hol2 hq
    rw [if_pos ⟨rfl, rfl⟩]
    simp only [h0, h3, h4, e1, e0, hbv, go_sem, Nat.reduceEqDiff, reduceIte, Int.reduceEq, Int.reduceLT, Int.reduceLE, Nat.reduceAdd, Nat.reduceLT, Nat.reduceLeDiff, Int.reduceToNat, Int.reduceSub, Int.reduceAdd, Int.reduceNeg]
    refine app_out hO (rowsOf_str _ _) rfl (by simp) hol2 fun L3 sv3 hO3 _ => ?_
    exact ⟨s.length - (i + 1), by omega, i + 1, _, sv3, by omega, rfl, rfl, by rw [hw1], hO3, by rw [List.length_append]; simp; omega, hq⟩
  rw [if_neg hbad]
  have em : ((m : Int) = 0) = False := eq_false (by omega)
  by_cases k34 : b.toNat = 34
  · have e34 : ((b.toNat : Int) = 34) = True := eq_true (by omega)
    have hcm := hasc (by omega)
    rw [Prod.mk.injEq] at hcm
    obtain ⟨rfl, rfl⟩ := hcm
    have hch : quoteCh b.toNat 1 (s.drop i) = [92, 34] := by rw [k34]; rfl
    rw [hch] at hcl hol2 hq
    simp only [h0, h3, h4, e1, e0, hbv, em, e34, go_sem, Nat.reduceEqDiff, reduceIte, Int.reduceEq, Int.reduceLT, Int.reduceLE, Nat.reduceAdd, Nat.reduceLT, Nat.reduceLeDiff, Int.reduceToNat, Int.reduceSub, Int.reduceAdd, Int.reduceNeg]
    refine app_out (x := [92, 34]) hO.app (by simp [rowsOf, bytesRows, k34]) rfl (by simp) hol2 fun L3 sv3 hO3 _ => ?_
    exact ⟨s.length - (i + 1), by omega, i + 1, _, sv3, by omega, rfl, rfl, by rw [hw1], hO3, by rw [List.length_append]; simp; omega, hq⟩
  have e34 : ((b.toNat : Int) = 34) = False := eq_false (by omega)
  by_cases k92 : b.toNat = 92
  · have e92 : ((b.toNat : Int) = 92) = True := eq_true (by omega)
    have hcm := hasc (by omega)
    rw [Prod.mk.injEq] at hcm
    obtain ⟨rfl, rfl⟩ := hcm
    have hch : quoteCh b.toNat 1 (s.drop i) = [92, 92] := by rw [k92]; rfl
    rw [hch] at hcl hol2 hq
    simp only [h0, h3, h4, e1, e0, hbv, em, e34, e92, go_sem, Nat.reduceEqDiff, reduceIte, Int.reduceEq, Int.reduceLT, Int.reduceLE, Nat.reduceAdd, Nat.reduceLT, Nat.reduceLeDiff, Int.reduceToNat, Int.reduceSub, Int.reduceAdd, Int.reduceNeg]
    refine app_out (x := [92, 92]) hO.app (by simp [rowsOf, bytesRows, k92]) rfl (by simp) hol2 fun L3 sv3 hO3 _ => ?_
    exact ⟨s.length - (i + 1), by omega, i + 1, _, sv3, by omega, rfl, rfl, by rw [hw1], hO3, by rw [List.length_append]; simp; omega, hq⟩
  have e92 : ((b.toNat : Int) = 92) = False := eq_false (by omega)
  by_cases k8 : b.toNat = 8
  · have e8 : ((b.toNat : Int) = 8) = True := eq_true (by omega)
    have hcm := hasc (by omega)
    rw [Prod.mk.injEq] at hcm
    obtain ⟨rfl, rfl⟩ := hcm
    have hch : quoteCh b.toNat 1 (s.drop i) = [92, 98] := by rw [k8]; rfl
    rw [hch] at hcl hol2 hq
    simp only [h0, h3, h4, e1, e0, hbv, em, e34, e92, e8, go_sem, Nat.reduceEqDiff, reduceIte, Int.reduceEq, Int.reduceLT, Int.reduceLE, Nat.reduceAdd, Nat.reduceLT, Nat.reduceLeDiff, Int.reduceToNat, Int.reduceSub, Int.reduceAdd, Int.reduceNeg]
    refine app_out hO (rowsOf_str _ _) rfl (by simp) hol2 fun L3 sv3 hO3 _ => ?_
    exact ⟨s.length - (i + 1), by omega, i + 1, _, sv3, by omega, rfl, rfl, by rw [hw1], hO3, by rw [List.length_append]; simp; omega, hq⟩
  have e8 : ((b.toNat : Int) = 8) = False := eq_false (by omega)
  by_cases k12 : b.toNat = 12
  · have e12 : ((b.toNat : Int) = 12) = True := eq_true (by omega)
    have hcm := hasc (by omega)
    rw [Prod.mk.injEq] at hcm
    obtain ⟨rfl, rfl⟩ := hcm
    have hch : quoteCh b.toNat 1 (s.drop i) = [92, 102] := by rw [k12]; rfl
    rw [hch] at hcl hol2 hq
    simp only [h0, h3, h4, e1, e0, hbv, em, e34, e92, e8, e12, go_sem, Nat.reduceEqDiff, reduceIte, Int.reduceEq, Int.reduceLT, Int.reduceLE, Nat.reduceAdd, Nat.reduceLT, Nat.reduceLeDiff, Int.reduceToNat, Int.reduceSub, Int.reduceAdd, Int.reduceNeg]
    refine app_out hO (rowsOf_str _ _) rfl (by simp) hol2 fun L3 sv3 hO3 _ => ?_
    exact ⟨s.length - (i + 1), by omega, i + 1, _, sv3, by omega, rfl, rfl, by rw [hw1], hO3, by rw [List.length_append]; simp; omega, hq⟩
  have e12 : ((b.toNat : Int) = 12) = False := eq_false (by omega)
  by_cases k10 : b.toNat = 10
  · have e10 : ((b.toNat : Int) = 10) = True := eq_true (by omega)
    have hcm := hasc (by omega)
    rw [Prod.mk.injEq] at hcm
    obtain ⟨rfl, rfl⟩ := hcm
    have hch : quoteCh b.toNat 1 (s.drop i) = [92, 110] := by rw [k10]; rfl
    rw [hch] at hcl hol2 hq
    simp only [h0, h3, h4, e1, e0, hbv, em, e34, e92, e8, e12, e10, go_sem, Nat.reduceEqDiff, reduceIte, Int.reduceEq, Int.reduceLT, Int.reduceLE, Nat.reduceAdd, Nat.reduceLT, Nat.reduceLeDiff, Int.reduceToNat, Int.reduceSub, Int.reduceAdd, Int.reduceNeg]
    refine app_out hO (rowsOf_str _ _) rfl (by simp) hol2 fun L3 sv3 hO3 _ => ?_
    exact ⟨s.length - (i + 1), by omega, i + 1, _, sv3, by omega, rfl, rfl, by rw [hw1], hO3, by rw [List.length_append]; simp; omega, hq⟩
  have e10 : ((b.toNat : Int) = 10) = False := eq_false (by omega)
  by_cases k13 : b.toNat = 13
  · have e13 : ((b.toNat : Int) = 13) = True := eq_true (by omega)
    have hcm := hasc (by omega)
    rw [Prod.mk.injEq] at hcm
    obtain ⟨rfl, rfl⟩ := hcm
    have hch : quoteCh b.toNat 1 (s.drop i) = [92, 114] := by rw [k13]; rfl
    rw [hch] at hcl hol2 hq
    simp only [h0, h3, h4, e1, e0, hbv, em, e34, e92, e8, e12, e10, e13, go_sem, Nat.reduceEqDiff, reduceIte, Int.reduceEq, Int.reduceLT, Int.reduceLE, Nat.reduceAdd, Nat.reduceLT, Nat.reduceLeDiff, Int.reduceToNat, Int.reduceSub, Int.reduceAdd, Int.reduceNeg]
    refine app_out hO (rowsOf_str _ _) rfl (by simp) hol2 fun L3 sv3 hO3 _ => ?_
    exact ⟨s.length - (i + 1), by omega, i + 1, _, sv3, by omega, rfl, rfl, by rw [hw1], hO3, by rw [List.length_append]; simp; omega, hq⟩
  have e13 : ((b.toNat : Int) = 13) = False := eq_false (by omega)
  by_cases k9 : b.toNat = 9
  · have e9 : ((b.toNat : Int) = 9) = True := eq_true (by omega)
    have hcm := hasc (by omega)
    rw [Prod.mk.injEq] at hcm
    obtain ⟨rfl, rfl⟩ := hcm
    have hch : quoteCh b.toNat 1 (s.drop i) = [92, 116] := by rw [k9]; rfl
    rw [hch] at hcl hol2 hq
    simp only [h0, h3, h4, e1, e0, hbv, em, e34, e92, e8, e12, e10, e13, e9, go_sem, Nat.reduceEqDiff, reduceIte, Int.reduceEq, Int.reduceLT, Int.reduceLE, Nat.reduceAdd, Nat.reduceLT, Nat.reduceLeDiff, Int.reduceToNat, Int.reduceSub, Int.reduceAdd, Int.reduceNeg]
    refine app_out hO (rowsOf_str _ _) rfl (by simp) hol2 fun L3 sv3 hO3 _ => ?_
    exact ⟨s.length - (i + 1), by omega, i + 1, _, sv3, by omega, rfl, rfl, by rw [hw1], hO3, by rw [List.length_append]; simp; omega, hq⟩
  have e9 : ((b.toNat : Int) = 9) = False := eq_false (by omega)
  by_cases k32 : b.toNat < 32
  · have e32 : ((b.toNat : Int) < 32) = True := eq_true (by omega)
    have hcm := hasc (by omega)
    rw [Prod.mk.injEq] at hcm
    obtain ⟨rfl, rfl⟩ := hcm
    have hch : quoteCh b.toNat 1 (s.drop i) = [92, 117, 48, 48] ++ [Fr.hexD.getD (b.toNat / 16) 0, Fr.hexD.getD (b.toNat % 16) 0] := by
      unfold quoteCh
      rw [if_neg hbad, ch_none ⟨b.toNat, k32⟩ (by dsimp only; omega)]
      exact if_pos k32
    rw [hch] at hcl hol2 hq
    rw [← List.append_assoc] at hq
    have q1 : IntKind.u8.wrap ((b.toNat : Int).tdiv 16) = ((b.toNat / 16 : Nat) : Int) := by rw [Int.tdiv_eq_ediv_of_nonneg (by omega), show (b.toNat : Int) / 16 = ((b.toNat / 16 : Nat) : Int) by omega, u8n _ (by omega)]
    have q2 : (b.toNat : Int).tmod 16 = ((b.toNat % 16 : Nat) : Int) := by rw [Int.tmod_eq_emod_of_nonneg (by omega)]; omega
    have q3 : ((0 : Int) ≤ ((b.toNat / 16 : Nat) : Int)) = True := eq_true (by omega)
    have q4 : ((0 : Int) ≤ ((b.toNat % 16 : Nat) : Int)) = True := eq_true (by omega)
    have x1 := hex_at ⟨b.toNat / 16, by omega⟩
    have x2 := hex_at ⟨b.toNat % 16, by omega⟩
    dsimp only at x1 x2
    simp only [h0, h3, h4, e1, e0, hbv, em, e34, e92, e8, e12, e10, e13, e9, e32, go_sem, Nat.reduceEqDiff, reduceIte, Int.reduceEq, Int.reduceLT, Int.reduceLE, Nat.reduceAdd, Nat.reduceLT, Nat.reduceLeDiff, Int.reduceToNat, Int.reduceSub, Int.reduceAdd, Int.reduceNeg]
    refine app_out hO (rowsOf_str _ _) rfl (by simp) (by rw [List.length_append] at hol2; omega) fun L3 sv3 hO3 _ => ?_
    simp only [h0, h3, h4, e1, e0, hbv, em, e34, e92, e8, e12, e10, e13, e9, e32, q1, q2, q3, q4, x1, x2, go_sem, Nat.reduceEqDiff, reduceIte, Int.reduceEq, Int.reduceLT, Int.reduceLE, Nat.reduceAdd, Nat.reduceLT, Nat.reduceLeDiff, Int.reduceToNat, Int.reduceSub, Int.reduceAdd, Int.reduceNeg]
    refine ⟨by omega, by omega, by omega, by omega, ?_⟩
    refine app_out (x := [Fr.hexD.getD (b.toNat / 16) 0, Fr.hexD.getD (b.toNat % 16) 0]) hO3.app (by simp [rowsOf, bytesRows]) rfl (by simp) (by rw [List.length_append] at hol2 ⊢; simp at hol2 ⊢; omega) fun L4 sv4 hO4 _ => ?_
    exact ⟨s.length - (i + 1), by omega, i + 1, _, sv4, by omega, rfl, rfl, by rw [hw1], hO4, by rw [List.length_append, List.length_append]; simp; omega, hq⟩
  have e32 : ((b.toNat : Int) < 32) = False := eq_false (by omega)
  have hcc : 32 ≤ c ∧ c ≠ 34 ∧ c ≠ 92 := by
    by_cases h : b.toNat < 128
    · have hcm := hasc h
      rw [Prod.mk.injEq] at hcm
      omega
    · have := hbig (by omega)
      omega
  have hch : quoteCh c m (s.drop i) = (s.drop i).take m := quoteCh_big c m _ hbad hcc.1 hcc.2.1 hcc.2.2
  rw [hch] at hcl hol2 hq
  simp only [h0, h3, h4, e1, e0, hbv, em, e34, e92, e8, e12, e10, e13, e9, e32, hwi, go_sem, Nat.reduceEqDiff, reduceIte, Int.reduceEq, Int.reduceLT, Int.reduceLE, Nat.reduceAdd, Nat.reduceLT, Nat.reduceLeDiff, Int.reduceToNat, Int.reduceSub, Int.reduceAdd, Int.reduceNeg]
  refine ⟨by omega, by omega, ?_⟩
  have hcut : (s.take (i + m)).drop i = (s.drop i).take m := by rw [List.drop_take, show i + m - i = m by omega]
  rw [hcut]
  refine app_out hO (rowsOf_str _ _) rfl (fun h => by rw [h] at hcl; simp at hcl) hol2 fun L3 sv3 hO3 _ => ?_
  exact ⟨s.length - (i + m), by omega, i + m, _, sv3, by omega, rfl, rfl, rfl, hO3, by rw [List.length_append]; omega, hq⟩
end
end Go.X.TryzW
end
section
open Go Go.X Go.Proofs
set_option maxRecDepth 100000
set_option maxHeartbeats 4000000
set_option linter.unusedSimpArgs false
set_option linter.unusedVariables false
namespace Go.X.TryzW
/- "tiller/history.Words" params { toList := [3] } results { toList := [Go.ResultVar.tmp 2] } -/
def q33 : XC :=
 (.seq
  (.ops [
    ⟨(some 2), (.mov (.c (.str []))), none⟩])
  (.seq
   (.seq
    (.ops [
      ⟨(some 3), (.mov (.t 0)), none⟩])
    (.block 0
     (.seq
      (.ops [
        ⟨(some 5), (.bin .eql (.t 3) (.c (.int .i64 1))), none⟩,
        ⟨(some 4), (.mov (.t 5)), none⟩])
      (.cond (.t 4)
       (.seq
        (.ops [
          ⟨(some 2), (.mov (.c (.str [114, 117, 110, 110, 105, 110, 103]))), none⟩])
        .ret)
       (.seq
        (.ops [
          ⟨(some 7), (.bin .eql (.t 3) (.c (.int .i64 2))), none⟩,
          ⟨(some 6), (.mov (.t 7)), none⟩])
        (.cond (.t 6)
         (.seq
          (.ops [
            ⟨(some 2), (.mov (.c (.str [100, 111, 110, 101]))), none⟩])
          .ret)
         (.seq
          (.ops [
            ⟨(some 9), (.bin .eql (.t 3) (.c (.int .i64 3))), none⟩,
            ⟨(some 8), (.mov (.t 9)), none⟩])
          (.cond (.t 8)
           (.seq
            (.ops [
              ⟨(some 2), (.mov (.c (.str [98, 114, 111, 107, 101, 110]))), none⟩])
            .ret)
           (.seq
            (.ops [
              ⟨(some 11), (.bin .eql (.t 3) (.c (.int .i64 4))), none⟩,
              ⟨(some 10), (.mov (.t 11)), none⟩])
            (.cond (.t 10)
             (.seq
              (.ops [
                ⟨(some 2), (.mov (.c (.str [99, 97, 110, 99, 101, 108, 101, 100]))), none⟩])
              .ret)
             .skip))))))))))
   (.seq
    (.ops [
      ⟨(some 2), (.mov (.c (.str [110, 111, 110, 101]))), none⟩])
    .ret)))

/- "tiller/tillerref09.Words" params { toList := [3] } results { toList := [Go.ResultVar.tmp 2] } -/
def q36 : XC :=
 (.seq
  (.ops [
    ⟨(some 2), (.mov (.c (.str []))), none⟩])
  (.seq
   (.seq
    (.ops [
      ⟨(some 3), (.mov (.t 0)), none⟩])
    (.block 0
     (.seq
      (.ops [
        ⟨(some 5), (.bin .eql (.t 3) (.c (.int .i64 1))), none⟩,
        ⟨(some 4), (.mov (.t 5)), none⟩])
      (.cond (.t 4)
       (.seq
        (.ops [
          ⟨(some 2), (.mov (.c (.str [114, 117, 110, 110, 105, 110, 103]))), none⟩])
        .ret)
       (.seq
        (.ops [
          ⟨(some 7), (.bin .eql (.t 3) (.c (.int .i64 2))), none⟩,
          ⟨(some 6), (.mov (.t 7)), none⟩])
        (.cond (.t 6)
         (.seq
          (.ops [
            ⟨(some 2), (.mov (.c (.str [100, 111, 110, 101]))), none⟩])
          .ret)
         (.seq
          (.ops [
            ⟨(some 9), (.bin .eql (.t 3) (.c (.int .i64 3))), none⟩,
            ⟨(some 8), (.mov (.t 9)), none⟩])
          (.cond (.t 8)
           (.seq
            (.ops [
              ⟨(some 2), (.mov (.c (.str [98, 114, 111, 107, 101, 110]))), none⟩])
            .ret)
           (.seq
            (.ops [
              ⟨(some 11), (.bin .eql (.t 3) (.c (.int .i64 4))), none⟩,
              ⟨(some 10), (.mov (.t 11)), none⟩])
            (.cond (.t 10)
             (.seq
              (.ops [
                ⟨(some 2), (.mov (.c (.str [99, 97, 110, 99, 101, 108, 101, 100]))), none⟩])
              .ret)
             .skip))))))))))
   (.seq
    (.ops [
      ⟨(some 2), (.mov (.c (.str [110, 111, 110, 101]))), none⟩])
    .ret)))

/- "tiller/tillerref13.standing" params { toList := [3] } results { toList := [Go.ResultVar.tmp 2] } -/
def q37 : XC :=
 (.seq
  (.ops [
    ⟨(some 2), (.mov (.c (.str []))), none⟩])
  (.seq
   (.ops [
     ⟨(some 4), (.build [(.str []), (.str []), (.str []), (.str []), (.str [])] [(0, (1, (.c (.str [105, 100, 108, 101])))), (1, (1, (.c (.str [114, 101, 97, 100, 121])))), (2, (1, (.c (.str [98, 117, 115, 121])))), (3, (1, (.c (.str [111, 118, 101, 114])))), (4, (1, (.c (.str [98, 97, 100]))))]), none⟩,
     ⟨(some 3), (.alloc [(.str []), (.str []), (.str []), (.str []), (.str [])]), none⟩,
     ⟨none, (.store 5 (.t 3) (.t 4)), none⟩])
   (.seq
    (.seq
     (.ops [
       ⟨(some 5), (.mov (.t 0)), none⟩,
       ⟨(some 6), (.bin .lss (.t 5) (.c (.int .i64 0))), none⟩,
       ⟨(some 7), (.mov (.t 6)), none⟩,
       ⟨(some 8), (.mov (.t 0)), (some (7, false))⟩,
       ⟨(some 9), (.bin .gtr (.t 8) (.c (.int .i64 4))), (some (7, false))⟩,
       ⟨(some 10), (.pick (.t 7) (.c (.bool true)) (.t 9)), none⟩])
     (.cond (.t 10)
      (.seq
       (.ops [
         ⟨(some 2), (.mov (.c (.str []))), none⟩])
       .ret)
      .skip))
    (.seq
     (.ops [
       ⟨(some 11), (.mov (.t 0)), none⟩,
       ⟨(some 12), (.idxA 5 1 (.t 3) (.t 11)), none⟩,
       ⟨(some 13), (.load1 (.t 12)), none⟩,
       ⟨(some 2), (.mov (.t 13)), none⟩])
     .ret))))

/- "tiller/history.Count" params { toList := [41] } results { toList := [Go.ResultVar.tmp 2] } -/
def q32 : XC :=
 (.seq
  (.ops [
    ⟨(some 1), (.box (.t 0)), none⟩,
    ⟨(some 2), (.mov (.c (.raw (.complex .f64 0 0)))), none⟩])
  (.seq
   (.ops [
     ⟨(some 3), (.mov (.c (.raw (.complex .f64 0 0)))), none⟩])
   (.seq
    (.seq
     (.ops [
       ⟨(some 6), (.fldA 6 (.t 1)), none⟩,
       ⟨(some 7), (.load1 (.t 6)), none⟩,
       ⟨(some 8), (.len (.t 7)), none⟩,
       ⟨(some 9), (.mov (.c (.int .i64 0))), none⟩])
     (.block 0
      (.loop
       (.seq
        (.ops [
          ⟨(some 10), (.bin .lss (.t 9) (.t 8)), none⟩])
        (.seq
         (.cond (.t 10)
          .skip
          (.exit 0))
         (.seq
          (.block 1
           (.seq
            (.ops [
              ⟨(some 11), (.idxS 3 (.t 7) (.t 9)), none⟩,
              ⟨(some 12), (.loadN 3 (.t 11)), none⟩,
              ⟨(some 5), (.alloc [(.int .i64 0), (.int .i64 0), (.str [])]), none⟩,
              ⟨none, (.store 3 (.t 5) (.t 12)), none⟩])
            (.seq
             (.ops [
               ⟨(some 13), (.fldA 0 (.t 5)), none⟩,
               ⟨(some 14), (.load1 (.t 13)), none⟩,
               ⟨(some 15), (.bin .eql (.t 14) (.c (.int .i64 3))), none⟩])
             (.cond (.t 15)
              (.ops [
                ⟨(some 16), (.mov (.t 3)), none⟩,
                ⟨(some 17), (.bin .add (.t 16) (.c (.raw (.complex .f64 4607182418800017408 0)))), none⟩,
                ⟨(some 3), (.mov (.t 17)), none⟩])
              (.ops [
                ⟨(some 18), (.mov (.t 3)), none⟩,
                ⟨(some 19), (.bin .add (.t 18) (.c (.raw (.complex .f64 0 4607182418800017408)))), none⟩,
                ⟨(some 3), (.mov (.t 19)), none⟩])))))
          (.ops [
            ⟨(some 20), (.bin .add (.t 9) (.c (.int .i64 1))), none⟩,
            ⟨(some 9), (.mov (.t 20)), none⟩])))))))
    (.seq
     (.ops [
       ⟨(some 21), (.mov (.t 3)), none⟩,
       ⟨(some 2), (.mov (.t 21)), none⟩])
     .ret))))

/- "tiller/tillerref09.Count" params { toList := [41] } results { toList := [Go.ResultVar.tmp 2, Go.ResultVar.tmp 3] } -/
def q35 : XC :=
 (.seq
  (.ops [
    ⟨(some 1), (.box (.t 0)), none⟩,
    ⟨(some 2), (.mov (.c (.int .i64 0))), none⟩,
    ⟨(some 3), (.mov (.c (.int .i64 0))), none⟩])
  (.seq
   (.ops [
     ⟨(some 4), (.mov (.c (.int .i64 0))), none⟩])
   (.seq
    (.seq
     (.ops [
       ⟨(some 5), (.mov (.c (.int .i64 0))), none⟩])
     (.block 0
      (.loop
       (.seq
        (.seq
         (.ops [
           ⟨(some 6), (.mov (.t 5)), none⟩,
           ⟨(some 7), (.fldA 6 (.t 1)), none⟩,
           ⟨(some 8), (.load1 (.t 7)), none⟩,
           ⟨(some 9), (.len (.t 8)), none⟩,
           ⟨(some 10), (.bin .lss (.t 6) (.t 9)), none⟩])
         (.cond (.t 10)
          .skip
          (.exit 0)))
        (.seq
         (.block 1
          (.seq
           (.ops [
             ⟨(some 13), (.fldA 6 (.t 1)), none⟩,
             ⟨(some 14), (.load1 (.t 13)), none⟩,
             ⟨(some 15), (.mov (.t 5)), none⟩,
             ⟨(some 16), (.idxS 3 (.t 14) (.t 15)), none⟩,
             ⟨(some 17), (.fldA 0 (.t 16)), none⟩,
             ⟨(some 18), (.load1 (.t 17)), none⟩,
             ⟨(some 19), (.bin .eql (.t 18) (.c (.int .i64 3))), none⟩])
           (.cond (.t 19)
            (.ops [
              ⟨(some 20), (.mov (.t 4)), none⟩,
              ⟨(some 21), (.bin .add (.t 20) (.c (.int .i64 1))), none⟩,
              ⟨(some 4), (.mov (.t 21)), none⟩])
            .skip)))
         (.ops [
           ⟨(some 11), (.mov (.t 5)), none⟩,
           ⟨(some 12), (.bin .add (.t 11) (.c (.int .i64 1))), none⟩,
           ⟨(some 5), (.mov (.t 12)), none⟩]))))))
    (.seq
     (.draw [
       ⟨(some 22), (.mov (.t 4)), none⟩,
       ⟨(some 23), (.fldA 6 (.t 1)), none⟩,
       ⟨(some 24), (.load1 (.t 23)), none⟩,
       ⟨(some 25), (.len (.t 24)), none⟩,
       ⟨(some 26), (.mov (.t 4)), none⟩,
       ⟨(some 27), (.bin .sub (.t 25) (.t 26)), none⟩,
       ⟨(some 2), (.mov (.t 22)), none⟩,
       ⟨(some 3), (.mov (.t 27)), none⟩])
     .ret))))

section
variable {E : Env} {ρ : Rho} {L : List Blk} {K : IV → List Blk → Prop}
def wordsF (z : Int) : List UInt8 :=
  if z = 1 then [114, 117, 110, 110, 105, 110, 103] else if z = 2 then [100, 111, 110, 101] else if z = 3 then [98, 114, 111, 107, 101, 110] else if z = 4 then [99, 97, 110, 99, 101, 108, 101, 100] else [110, 111, 110, 101]
theorem words_len (z : Int) : (wordsF z).length ≤ 10 := by unfold wordsF; repeat' split
                                                           all_goals simp
def standL : List (List UInt8) := [[105, 100, 108, 101], [114, 101, 97, 100, 121], [98, 117, 115, 121], [111, 118, 101, 114], [98, 97, 100]]
def standF (z : Int) : List UInt8 := if 0 ≤ z ∧ z < 5 then standL.getD z.toNat [] else []
theorem stand_len (z : Int) : (standF z).length ≤ 10 := by
  unfold standF
  split
  · rename_i h
    have : ∀ k : Fin 5, (standL.getD k.val []).length ≤ 10 := by decide
    exact this ⟨z.toNat, by omega⟩
  · simp
/-- A node as it stands. -/
structure NS where
  st : Int
  tr : Int
  tx : List UInt8
def nsRow (x : NS) : List IV := [.int .i64 x.st, .int .i64 x.tr, .str x.tx]
def nsRows (l : List NS) : List (List IV) := l.map nsRow
theorem nsRows_len (l : List NS) : (nsRows l).length = l.length := by simp [nsRows]
theorem rows_ns (l : List NS) : Rows 3 (nsRows l) = True := eq_true (fun row hr => by
  simp only [nsRows, List.mem_map] at hr
  obtain ⟨x, _, rfl⟩ := hr; rfl)
theorem nsRows_get {l : List NS} {i : Nat} (h : i < l.length) : (nsRows l).getD i [] = [.int .i64 (l.getD i ⟨0, 0, []⟩).st, .int .i64 (l.getD i ⟨0, 0, []⟩).tr, .str (l.getD i ⟨0, 0, []⟩).tx] := by
  rw [nsRows, List.getD_eq_getElem?_getD, List.getElem?_map, List.getElem?_eq_getElem h, List.getD_eq_getElem?_getD, List.getElem?_eq_getElem h]; rfl
/-- A workflow as it stands. -/
structure SS where
  df : List UInt8
  id : List UInt8
  pa : List UInt8
  pn : List UInt8
  st : Int
  tx : List UInt8
  ns : List NS
  sg : List (List IV)
  ev : Int
def SS.cells (s : SS) : List IV := [.str s.df, .str s.id, .str s.pa, .str s.pn, .int .i64 s.st, .str s.tx, .isl (nsRows s.ns), .isl s.sg, .int .i64 s.ev]
/-- How many are over. -/
def overN (l : List NS) : Nat := l.countP fun x => decide (x.st = 3)
theorem overN_le (l : List NS) : overN l ≤ l.length := List.countP_le_length
theorem overN_take {l : List NS} {i : Nat} (h : i < l.length) : overN (l.take (i + 1)) = overN (l.take i) + (if (l.getD i ⟨0, 0, []⟩).st = 3 then 1 else 0) := by
  unfold overN
  rw [List.take_add_one, List.getElem?_eq_getElem h, List.countP_append, List.getD_eq_getElem?_getD, List.getElem?_eq_getElem h]
  simp [List.countP_cons]
theorem o_addRaw {u v r : Value} {KV : IV → List Blk → Prop} (h : rawAdd u v = some r) : xop E (.bin .add (.c (.raw u)) (.c (.raw v))) cev L KV = KV (.raw r) L := by
  simp only [xop, xbin, cev_c, h, Option.some.injEq, exists_eq_left']
theorem x_toInt {KV : IV → List Blk → Prop} {k : IntKind} {s : FloatKind} {b g : Nat} {n : Int} (h : floatToIntVal s b k = some n) : xex E (.ru (.toInt k)) [.raw (.float s b)] g L KV = KV (.int k n) L := by
  simp only [xex, rawUn, h, Option.map_some, Option.some.injEq, exists_eq_left']
theorem words_pure (hP : E.P = Tryz.prog) (z : Int) : XPure E 33 [.int .i64 z] (.str (wordsF z)) := by
  refine xpure1 (n := Tryz.f33.ntmps) (c := q33) (t := 2) (by rw [hP]; rfl) (by rw [hP]; kernel_rfl) (by decide) (Nat.le_of_ble_eq_true rfl) ?_
  generalize hρ : entry _ = ρ
  have h0 : ρ 0 = .int .i64 z := by rw [← hρ]; rfl
  clear hρ
  unfold q33
  simp only [h0, go_sem, Nat.reduceEqDiff, reduceIte, Int.reduceEq, Int.reduceLT, Int.reduceLE, Nat.reduceAdd, Nat.reduceLT, Nat.reduceLeDiff, Int.reduceToNat, Int.reduceSub, Int.reduceAdd, Int.reduceNeg]
  unfold wordsF
  refine s_cond (b := decide (z = 1)) (by simp only [h0, go_sem, Nat.reduceEqDiff, reduceIte, Int.reduceEq, Int.reduceLT, Int.reduceLE, Nat.reduceAdd, Nat.reduceLT, Nat.reduceLeDiff, Int.reduceToNat, Int.reduceSub, Int.reduceAdd, Int.reduceNeg]; try rfl) ?_ ?_ <;> intro c1 <;> simp only [c1, h0, go_sem, Nat.reduceEqDiff, reduceIte, Int.reduceEq, Int.reduceLT, Int.reduceLE, Nat.reduceAdd, Nat.reduceLT, Nat.reduceLeDiff, Int.reduceToNat, Int.reduceSub, Int.reduceAdd, Int.reduceNeg]
  · rw [if_pos (of_decide_eq_true c1)]; rfl
  · rw [if_neg (of_decide_eq_false c1)]
    refine s_cond (b := decide (z = 2)) (by simp only [h0, go_sem, Nat.reduceEqDiff, reduceIte, Int.reduceEq, Int.reduceLT, Int.reduceLE, Nat.reduceAdd, Nat.reduceLT, Nat.reduceLeDiff, Int.reduceToNat, Int.reduceSub, Int.reduceAdd, Int.reduceNeg]; try rfl) ?_ ?_ <;> intro c2 <;> simp only [c2, h0, go_sem, Nat.reduceEqDiff, reduceIte, Int.reduceEq, Int.reduceLT, Int.reduceLE, Nat.reduceAdd, Nat.reduceLT, Nat.reduceLeDiff, Int.reduceToNat, Int.reduceSub, Int.reduceAdd, Int.reduceNeg]
    · rw [if_pos (of_decide_eq_true c2)]; rfl
    · rw [if_neg (of_decide_eq_false c2)]
      refine s_cond (b := decide (z = 3)) (by simp only [h0, go_sem, Nat.reduceEqDiff, reduceIte, Int.reduceEq, Int.reduceLT, Int.reduceLE, Nat.reduceAdd, Nat.reduceLT, Nat.reduceLeDiff, Int.reduceToNat, Int.reduceSub, Int.reduceAdd, Int.reduceNeg]; try rfl) ?_ ?_ <;> intro c3 <;> simp only [c3, h0, go_sem, Nat.reduceEqDiff, reduceIte, Int.reduceEq, Int.reduceLT, Int.reduceLE, Nat.reduceAdd, Nat.reduceLT, Nat.reduceLeDiff, Int.reduceToNat, Int.reduceSub, Int.reduceAdd, Int.reduceNeg]
      · rw [if_pos (of_decide_eq_true c3)]; rfl
      · rw [if_neg (of_decide_eq_false c3)]
        refine s_cond (b := decide (z = 4)) (by simp only [h0, go_sem, Nat.reduceEqDiff, reduceIte, Int.reduceEq, Int.reduceLT, Int.reduceLE, Nat.reduceAdd, Nat.reduceLT, Nat.reduceLeDiff, Int.reduceToNat, Int.reduceSub, Int.reduceAdd, Int.reduceNeg]; try rfl) ?_ ?_ <;> intro c4 <;> simp only [c4, h0, go_sem, Nat.reduceEqDiff, reduceIte, Int.reduceEq, Int.reduceLT, Int.reduceLE, Nat.reduceAdd, Nat.reduceLT, Nat.reduceLeDiff, Int.reduceToNat, Int.reduceSub, Int.reduceAdd, Int.reduceNeg]
        · rw [if_pos (of_decide_eq_true c4)]; rfl
        · rw [if_neg (of_decide_eq_false c4)]; rfl

theorem rwords_pure (hP : E.P = Tryz.prog) (z : Int) : XPure E 36 [.int .i64 z] (.str (wordsF z)) := by
  refine xpure1 (n := Tryz.f36.ntmps) (c := q36) (t := 2) (by rw [hP]; rfl) (by rw [hP]; kernel_rfl) (by decide) (Nat.le_of_ble_eq_true rfl) ?_
  generalize hρ : entry _ = ρ
  have h0 : ρ 0 = .int .i64 z := by rw [← hρ]; rfl
  clear hρ
  unfold q36
  simp only [h0, go_sem, Nat.reduceEqDiff, reduceIte, Int.reduceEq, Int.reduceLT, Int.reduceLE, Nat.reduceAdd, Nat.reduceLT, Nat.reduceLeDiff, Int.reduceToNat, Int.reduceSub, Int.reduceAdd, Int.reduceNeg]
  unfold wordsF
  refine s_cond (b := decide (z = 1)) (by simp only [h0, go_sem, Nat.reduceEqDiff, reduceIte, Int.reduceEq, Int.reduceLT, Int.reduceLE, Nat.reduceAdd, Nat.reduceLT, Nat.reduceLeDiff, Int.reduceToNat, Int.reduceSub, Int.reduceAdd, Int.reduceNeg]; try rfl) ?_ ?_ <;> intro c1 <;> simp only [c1, h0, go_sem, Nat.reduceEqDiff, reduceIte, Int.reduceEq, Int.reduceLT, Int.reduceLE, Nat.reduceAdd, Nat.reduceLT, Nat.reduceLeDiff, Int.reduceToNat, Int.reduceSub, Int.reduceAdd, Int.reduceNeg]
  · rw [if_pos (of_decide_eq_true c1)]; rfl
  · rw [if_neg (of_decide_eq_false c1)]
    refine s_cond (b := decide (z = 2)) (by simp only [h0, go_sem, Nat.reduceEqDiff, reduceIte, Int.reduceEq, Int.reduceLT, Int.reduceLE, Nat.reduceAdd, Nat.reduceLT, Nat.reduceLeDiff, Int.reduceToNat, Int.reduceSub, Int.reduceAdd, Int.reduceNeg]; try rfl) ?_ ?_ <;> intro c2 <;> simp only [c2, h0, go_sem, Nat.reduceEqDiff, reduceIte, Int.reduceEq, Int.reduceLT, Int.reduceLE, Nat.reduceAdd, Nat.reduceLT, Nat.reduceLeDiff, Int.reduceToNat, Int.reduceSub, Int.reduceAdd, Int.reduceNeg]
    · rw [if_pos (of_decide_eq_true c2)]; rfl
    · rw [if_neg (of_decide_eq_false c2)]
      refine s_cond (b := decide (z = 3)) (by simp only [h0, go_sem, Nat.reduceEqDiff, reduceIte, Int.reduceEq, Int.reduceLT, Int.reduceLE, Nat.reduceAdd, Nat.reduceLT, Nat.reduceLeDiff, Int.reduceToNat, Int.reduceSub, Int.reduceAdd, Int.reduceNeg]; try rfl) ?_ ?_ <;> intro c3 <;> simp only [c3, h0, go_sem, Nat.reduceEqDiff, reduceIte, Int.reduceEq, Int.reduceLT, Int.reduceLE, Nat.reduceAdd, Nat.reduceLT, Nat.reduceLeDiff, Int.reduceToNat, Int.reduceSub, Int.reduceAdd, Int.reduceNeg]
      · rw [if_pos (of_decide_eq_true c3)]; rfl
      · rw [if_neg (of_decide_eq_false c3)]
        refine s_cond (b := decide (z = 4)) (by simp only [h0, go_sem, Nat.reduceEqDiff, reduceIte, Int.reduceEq, Int.reduceLT, Int.reduceLE, Nat.reduceAdd, Nat.reduceLT, Nat.reduceLeDiff, Int.reduceToNat, Int.reduceSub, Int.reduceAdd, Int.reduceNeg]; try rfl) ?_ ?_ <;> intro c4 <;> simp only [c4, h0, go_sem, Nat.reduceEqDiff, reduceIte, Int.reduceEq, Int.reduceLT, Int.reduceLE, Nat.reduceAdd, Nat.reduceLT, Nat.reduceLeDiff, Int.reduceToNat, Int.reduceSub, Int.reduceAdd, Int.reduceNeg]
        · rw [if_pos (of_decide_eq_true c4)]; rfl
        · rw [if_neg (of_decide_eq_false c4)]; rfl

theorem rstand_pure (hP : E.P = Tryz.prog) (z : Int) : XPure E 37 [.int .i64 z] (.str (standF z)) := by
  refine xpure1 (n := Tryz.f37.ntmps) (c := q37) (t := 2) (by rw [hP]; rfl) (by rw [hP]; kernel_rfl) (by decide) (Nat.le_of_ble_eq_true rfl) ?_
  generalize hρ : entry _ = ρ
  have h0 : ρ 0 = .int .i64 z := by rw [← hρ]; rfl
  clear hρ
  unfold q37
  simp only [h0, go_sem, Nat.reduceEqDiff, reduceIte, Int.reduceEq, Int.reduceLT, Int.reduceLE, Nat.reduceAdd, Nat.reduceLT, Nat.reduceLeDiff, Int.reduceToNat, Int.reduceSub, Int.reduceAdd, Int.reduceNeg]
  by_cases c1 : 0 ≤ z
  case neg =>
    have e1 : (z < 0) = True := eq_true (by omega)
    simp only [h0, e1, decide_true, go_sem, Nat.reduceEqDiff, reduceIte, Int.reduceEq, Int.reduceLT, Int.reduceLE, Nat.reduceAdd, Nat.reduceLT, Nat.reduceLeDiff, Int.reduceToNat, Int.reduceSub, Int.reduceAdd, Int.reduceNeg]
    unfold standF
    rw [if_neg (by omega)]; rfl
  have e1 : (z < 0) = False := eq_false (by omega)
  by_cases c2 : z < 5
  case neg =>
    have e2 : (4 < z) = True := eq_true (by omega)
    simp only [h0, e1, e2, decide_true, decide_false, go_sem, Nat.reduceEqDiff, reduceIte, Int.reduceEq, Int.reduceLT, Int.reduceLE, Nat.reduceAdd, Nat.reduceLT, Nat.reduceLeDiff, Int.reduceToNat, Int.reduceSub, Int.reduceAdd, Int.reduceNeg]
    unfold standF
    rw [if_neg (by omega)]; rfl
  have e2 : (4 < z) = False := eq_false (by omega)
  have e3 : (0 ≤ z) = True := eq_true c1
  obtain ⟨k, rfl⟩ : ∃ k : Fin 5, z = (k.val : Int) := ⟨⟨z.toNat, by omega⟩, by simp; omega⟩
  unfold standF
  rw [if_pos ⟨c1, c2⟩]
  match k with
  | 0 | 1 | 2 | 3 | 4 => simp only [h0, e1, e2, e3, decide_true, decide_false, go_sem, Nat.reduceEqDiff, reduceIte, Int.reduceEq, Int.reduceLT, Int.reduceLE, Nat.reduceAdd, Nat.reduceLT, Nat.reduceLeDiff, Int.reduceToNat, Int.reduceSub, Int.reduceAdd, Int.reduceNeg]; trivial
theorem count_pure (hP : E.P = Tryz.prog) (s : SS) (hn : s.ns.length ≤ 40) : XPure E 32 [.agg s.cells] (.raw (.complex .f64 (fl (overN s.ns)) (fl (s.ns.length - overN s.ns)))) := by
  refine xpure1 (n := Tryz.f32.ntmps) (c := q32) (t := 2) (by rw [hP]; rfl) (by rw [hP]; kernel_rfl) (by decide) (Nat.le_of_ble_eq_true rfl) ?_
  generalize hρ : entry _ = ρ
  have h0 : ρ 0 = .agg s.cells := by rw [← hρ]; rfl
  clear hρ
  unfold q32
  have hcl : s.cells.length = 9 := rfl
  have hc6 : s.cells.getD 6 .und = .isl (nsRows s.ns) := rfl
  simp only [h0, nsRows_len, hcl, hc6, go_sem, Nat.reduceEqDiff, reduceIte, Int.reduceEq, Int.reduceLT, Int.reduceLE, Nat.reduceAdd, Nat.reduceLT, Nat.reduceLeDiff, Int.reduceToNat, Int.reduceSub, Int.reduceAdd, Int.reduceNeg]
  refine s_loop (fun n ρ L => ∃ i : Nat, i ≤ s.ns.length ∧ n = s.ns.length - i ∧ ρ 3 = .raw (.complex .f64 (fl (overN (s.ns.take i))) (fl (i - overN (s.ns.take i)))) ∧ ρ 7 = .isl (nsRows s.ns) ∧ ρ 8 = .int .i64 s.ns.length ∧ ρ 9 = .int .i64 i) (n := s.ns.length)
    ⟨0, Nat.zero_le _, rfl, by simp only [go_sem, Nat.reduceEqDiff, reduceIte, Int.reduceEq, Int.reduceLT, Int.reduceLE, Nat.reduceAdd, Nat.reduceLT, Nat.reduceLeDiff, Int.reduceToNat, Int.reduceSub, Int.reduceAdd, Int.reduceNeg]; show _ = IV.raw (.complex .f64 (fl 0) (fl 0)); rw [fl_zero], by simp only [go_sem, Nat.reduceEqDiff, reduceIte, Int.reduceEq, Int.reduceLT, Int.reduceLE, Nat.reduceAdd, Nat.reduceLT, Nat.reduceLeDiff, Int.reduceToNat, Int.reduceSub, Int.reduceAdd, Int.reduceNeg], by simp only [go_sem, Nat.reduceEqDiff, reduceIte, Int.reduceEq, Int.reduceLT, Int.reduceLE, Nat.reduceAdd, Nat.reduceLT, Nat.reduceLeDiff, Int.reduceToNat, Int.reduceSub, Int.reduceAdd, Int.reduceNeg], by simp only [go_sem, Nat.reduceEqDiff, reduceIte, Int.reduceEq, Int.reduceLT, Int.reduceLE, Nat.reduceAdd, Nat.reduceLT, Nat.reduceLeDiff, Int.reduceToNat, Int.reduceSub, Int.reduceAdd, Int.reduceNeg]; try rfl⟩ ?_
  clear h0 ρ
  rintro n ρ L ⟨i, hi, rfl, h3, h7, h8, h9⟩
  have hle := overN_le (s.ns.take i)
  rw [List.length_take] at hle
  by_cases hil : i < s.ns.length
  case neg =>
    have e1 : ((i : Int) < (s.ns.length : Int)) = False := eq_false (by omega)
    have hte : s.ns.take i = s.ns := List.take_of_length_le (by omega)
    have hie : i = s.ns.length := by omega
    rw [hte, hie] at h3
    simp only [h3, h7, h8, h9, e1, go_sem, Nat.reduceEqDiff, reduceIte, Int.reduceEq, Int.reduceLT, Int.reduceLE, Nat.reduceAdd, Nat.reduceLT, Nat.reduceLeDiff, Int.reduceToNat, Int.reduceSub, Int.reduceAdd, Int.reduceNeg]
    rfl
  have e1 : ((i : Int) < (s.ns.length : Int)) = True := eq_true (by omega)
  have e0 : ((0 : Int) ≤ (i : Int)) = True := eq_true (by omega)
  have hg := nsRows_get hil
  have hw : IntKind.i64.wrap ((i : Int) + 1) = ((i + 1 : Nat) : Int) := by rw [wrap64 (by omega) (by omega)]; rfl
  have ht := overN_take hil
  generalize hx : s.ns.getD i ⟨0, 0, []⟩ = x at hg ht
  have hA : rawAdd (.complex .f64 (fl (overN (s.ns.take i))) (fl (i - overN (s.ns.take i)))) (.complex .f64 4607182418800017408 0) = some (.complex .f64 (fl (overN (s.ns.take i) + 1)) (fl (i - overN (s.ns.take i)))) := by
    have e := cSum_over (a := overN (s.ns.take i)) (b := i - overN (s.ns.take i)) (by omega) (by omega)
    rw [fl_one, fl_zero] at e
    simp [rawAdd, e]
  have hB : rawAdd (.complex .f64 (fl (overN (s.ns.take i))) (fl (i - overN (s.ns.take i)))) (.complex .f64 0 4607182418800017408) = some (.complex .f64 (fl (overN (s.ns.take i))) (fl (i - overN (s.ns.take i) + 1))) := by
    have e := cSum_left (a := overN (s.ns.take i)) (b := i - overN (s.ns.take i)) (by omega) (by omega)
    rw [fl_one, fl_zero] at e
    simp [rawAdd, e]
  simp only [h3, h7, h8, h9, e0, e1, nsRows_len, rows_ns, hg, go_sem, Nat.reduceEqDiff, reduceIte, Int.reduceEq, Int.reduceLT, Int.reduceLE, Nat.reduceAdd, Nat.reduceLT, Nat.reduceLeDiff, Int.reduceToNat, Int.reduceSub, Int.reduceAdd, Int.reduceNeg]
  refine ⟨hil, ?_⟩
  by_cases h33 : x.st = 3
  · have e3 : (x.st = 3) = True := eq_true h33
    rw [if_pos h33] at ht
    simp only [h3, h7, h8, h9, e0, e1, e3, hg, hw, decide_true, o_addRaw hA, go_sem, Nat.reduceEqDiff, reduceIte, Int.reduceEq, Int.reduceLT, Int.reduceLE, Nat.reduceAdd, Nat.reduceLT, Nat.reduceLeDiff, Int.reduceToNat, Int.reduceSub, Int.reduceAdd, Int.reduceNeg]
    exact ⟨_, by omega, i + 1, by omega, rfl, by rw [ht, show i + 1 - (overN (s.ns.take i) + 1) = i - overN (s.ns.take i) by omega], rfl⟩
  · have e3 : (x.st = 3) = False := eq_false h33
    replace ht : overN (s.ns.take (i + 1)) = overN (s.ns.take i) := by rw [ht, if_neg h33]; rfl
    simp only [h3, h7, h8, h9, e0, e1, e3, hg, hw, decide_false, o_addRaw hB, go_sem, Nat.reduceEqDiff, reduceIte, Int.reduceEq, Int.reduceLT, Int.reduceLE, Nat.reduceAdd, Nat.reduceLT, Nat.reduceLeDiff, Int.reduceToNat, Int.reduceSub, Int.reduceAdd, Int.reduceNeg]
    exact ⟨_, by omega, i + 1, by omega, rfl, by rw [ht, show i + 1 - overN (s.ns.take i) = i - overN (s.ns.take i) + 1 by omega], rfl⟩
theorem rcount_pure (hP : E.P = Tryz.prog) (s : SS) (hn : s.ns.length ≤ 40) : XPure E 35 [.agg s.cells] (.tup [.int .i64 (overN s.ns), .int .i64 ((s.ns.length : Int) - overN s.ns)]) := by
  refine xpure2 (n := Tryz.f35.ntmps) (c := q35) (t := 2) (t' := 3) (by rw [hP]; rfl) (by rw [hP]; kernel_rfl) (by decide) (Nat.le_of_ble_eq_true rfl) ?_
  generalize hρ : entry _ = ρ
  have h0 : ρ 0 = .agg s.cells := by rw [← hρ]; rfl
  clear hρ
  unfold q35
  have hcl : s.cells.length = 9 := rfl
  have hc6 : s.cells.getD 6 .und = .isl (nsRows s.ns) := rfl
  simp only [h0, nsRows_len, hcl, hc6, go_sem, Nat.reduceEqDiff, reduceIte, Int.reduceEq, Int.reduceLT, Int.reduceLE, Nat.reduceAdd, Nat.reduceLT, Nat.reduceLeDiff, Int.reduceToNat, Int.reduceSub, Int.reduceAdd, Int.reduceNeg]
  refine xrun_cut (fun e ρ' L' => e = .exit 0 ∧ ρ' 4 = .int .i64 (overN s.ns) ∧ ρ' 1 = .ptr 0 0 0 ∧ L'[0]? = some (.cells 9 [s.cells])) ?_ ?_
  · refine s_loop (fun n ρ L => ∃ i : Nat, i ≤ s.ns.length ∧ n = s.ns.length - i ∧ ρ 4 = .int .i64 (overN (s.ns.take i)) ∧ ρ 1 = .ptr 0 0 0 ∧ ρ 5 = .int .i64 i ∧ L[0]? = some (.cells 9 [s.cells])) (n := s.ns.length)
      ⟨0, Nat.zero_le _, rfl, by simp only [go_sem, Nat.reduceEqDiff, reduceIte, Int.reduceEq, Int.reduceLT, Int.reduceLE, Nat.reduceAdd, Nat.reduceLT, Nat.reduceLeDiff, Int.reduceToNat, Int.reduceSub, Int.reduceAdd, Int.reduceNeg]; rfl, by simp only [go_sem, Nat.reduceEqDiff, reduceIte, Int.reduceEq, Int.reduceLT, Int.reduceLE, Nat.reduceAdd, Nat.reduceLT, Nat.reduceLeDiff, Int.reduceToNat, Int.reduceSub, Int.reduceAdd, Int.reduceNeg], by simp only [go_sem, Nat.reduceEqDiff, reduceIte, Int.reduceEq, Int.reduceLT, Int.reduceLE, Nat.reduceAdd, Nat.reduceLT, Nat.reduceLeDiff, Int.reduceToNat, Int.reduceSub, Int.reduceAdd, Int.reduceNeg]; try rfl, rfl⟩ ?_
    clear h0 ρ
    rintro n ρ L ⟨i, hi, rfl, h4, h1, h5, hL⟩
    have hle := overN_le (s.ns.take i)
    rw [List.length_take] at hle
    by_cases hil : i < s.ns.length
    case neg =>
      have e1 : ((i : Int) < (s.ns.length : Int)) = False := eq_false (by omega)
      have hte : s.ns.take i = s.ns := List.take_of_length_le (by omega)
      rw [hte] at h4
      simp only [h4, h1, h5, hL, e1, hcl, hc6, nsRows_len, go_sem, Nat.reduceEqDiff, reduceIte, Int.reduceEq, Int.reduceLT, Int.reduceLE, Nat.reduceAdd, Nat.reduceLT, Nat.reduceLeDiff, Int.reduceToNat, Int.reduceSub, Int.reduceAdd, Int.reduceNeg]
    have e1 : ((i : Int) < (s.ns.length : Int)) = True := eq_true (by omega)
    have e0 : ((0 : Int) ≤ (i : Int)) = True := eq_true (by omega)
    have hg := nsRows_get hil
    have hw : IntKind.i64.wrap ((i : Int) + 1) = ((i + 1 : Nat) : Int) := by rw [wrap64 (by omega) (by omega)]; rfl
    have ht := overN_take hil
    have hw2 : IntKind.i64.wrap ((overN (s.ns.take i) : Int) + 1) = ((overN (s.ns.take i) + 1 : Nat) : Int) := by rw [wrap64 (by omega) (by omega)]; rfl
    generalize hx : s.ns.getD i ⟨0, 0, []⟩ = x at hg ht
    simp only [h4, h1, h5, hL, e0, e1, hcl, hc6, nsRows_len, rows_ns, hg, go_sem, Nat.reduceEqDiff, reduceIte, Int.reduceEq, Int.reduceLT, Int.reduceLE, Nat.reduceAdd, Nat.reduceLT, Nat.reduceLeDiff, Int.reduceToNat, Int.reduceSub, Int.reduceAdd, Int.reduceNeg]
    refine ⟨hil, ?_⟩
    by_cases h33 : x.st = 3
    · have e3 : (x.st = 3) = True := eq_true h33
      rw [if_pos h33] at ht
      simp only [h4, h1, h5, hL, e3, hw, hw2, decide_true, go_sem, Nat.reduceEqDiff, reduceIte, Int.reduceEq, Int.reduceLT, Int.reduceLE, Nat.reduceAdd, Nat.reduceLT, Nat.reduceLeDiff, Int.reduceToNat, Int.reduceSub, Int.reduceAdd, Int.reduceNeg]
      exact ⟨_, by omega, i + 1, by omega, rfl, by rw [ht], rfl⟩
    · have e3 : (x.st = 3) = False := eq_false h33
      replace ht : overN (s.ns.take (i + 1)) = overN (s.ns.take i) := by rw [ht, if_neg h33]; rfl
      simp only [h4, h1, h5, hL, e3, hw, decide_false, go_sem, Nat.reduceEqDiff, reduceIte, Int.reduceEq, Int.reduceLT, Int.reduceLE, Nat.reduceAdd, Nat.reduceLT, Nat.reduceLeDiff, Int.reduceToNat, Int.reduceSub, Int.reduceAdd, Int.reduceNeg]
      exact ⟨_, by omega, i + 1, by omega, rfl, by rw [ht], rfl⟩
  rintro e ρ L ⟨rfl, h4, h1, hL⟩
  have hle := overN_le s.ns
  have hw : IntKind.i64.wrap ((s.ns.length : Int) - (overN s.ns : Int)) = (s.ns.length : Int) - (overN s.ns : Int) := by rw [wrap64 (by omega) (by omega)]
  simp only [h4, h1, hL, hcl, hc6, nsRows_len, hw, go_sem, Nat.reduceEqDiff, reduceIte, Int.reduceEq, Int.reduceLT, Int.reduceLE, Nat.reduceAdd, Nat.reduceLT, Nat.reduceLeDiff, Int.reduceToNat, Int.reduceSub, Int.reduceAdd, Int.reduceNeg]
  exact ⟨rfl, rfl, rfl⟩
end
end Go.X.TryzW
end
section
open Go Go.X Go.Proofs
set_option maxRecDepth 100000
set_option maxHeartbeats 4000000
set_option linter.unusedSimpArgs false
set_option linter.unusedVariables false
namespace Go.X.TryzW
/- "tiller/front.State" params { toList := [37, 41] } results { toList := [Go.ResultVar.tmp 4] } -/
def q16 : XC :=
 (.seq
  (.ops [
    ⟨(some 2), (.box (.t 0)), none⟩,
    ⟨(some 3), (.box (.t 1)), none⟩,
    ⟨(some 4), (.mov (.c (.str []))), none⟩])
  (.seq
   (.ops [
     ⟨(some 11), (.loadN 9 (.t 3)), none⟩,
     ⟨(some 12), (.call (.f 32) [(.t 11)]), none⟩,
     ⟨(some 5), (.mov (.t 12)), none⟩])
   (.seq
    (.ops [
      ⟨(some 13), (.build [(.str []), (.str []), (.str []), (.str []), (.str [])] [(0, (1, (.c (.str [105, 100, 108, 101])))), (1, (1, (.c (.str [114, 101, 97, 100, 121])))), (2, (1, (.c (.str [98, 117, 115, 121])))), (3, (1, (.c (.str [111, 118, 101, 114])))), (4, (1, (.c (.str [98, 97, 100]))))]), none⟩,
      ⟨(some 6), (.alloc [(.str []), (.str []), (.str []), (.str []), (.str [])]), none⟩,
      ⟨none, (.store 5 (.t 6) (.t 13)), none⟩])
    (.seq
     (.ops [
       ⟨(some 7), (.mov (.c .nsl)), none⟩])
     (.seq
      (.seq
       (.ops [
         ⟨(some 14), (.fldA 6 (.t 3)), none⟩,
         ⟨(some 15), (.load1 (.t 14)), none⟩,
         ⟨(some 16), (.fldA 6 (.t 3)), none⟩,
         ⟨(some 17), (.load1 (.t 16)), none⟩,
         ⟨(some 18), (.len (.t 17)), none⟩,
         ⟨(some 19), (.fldA 1 (.t 2)), none⟩,
         ⟨(some 20), (.load1 (.t 19)), none⟩,
         ⟨(some 21), (.len (.t 20)), none⟩,
         ⟨(some 22), (.min2 (.t 18) (.t 21)), none⟩,
         ⟨(some 23), (.slice 3 (.t 15) none (some (.t 22))), none⟩,
         ⟨(some 24), (.len (.t 23)), none⟩,
         ⟨(some 25), (.mov (.c (.int .i64 0))), none⟩])
       (.block 0
        (.loop
         (.seq
          (.ops [
            ⟨(some 26), (.bin .lss (.t 25) (.t 24)), none⟩])
          (.seq
           (.cond (.t 26)
            .skip
            (.exit 0))
           (.seq
            (.block 1
             (.seq
              (.ops [
                ⟨(some 27), (.mov (.t 25)), none⟩,
                ⟨(some 28), (.idxS 3 (.t 23) (.t 25)), none⟩,
                ⟨(some 29), (.loadN 3 (.t 28)), none⟩,
                ⟨(some 9), (.alloc [(.int .i64 0), (.int .i64 0), (.str [])]), none⟩,
                ⟨(some 8), (.mov (.t 27)), none⟩,
                ⟨none, (.store 3 (.t 9) (.t 29)), none⟩])
              (.seq
               (.ops [
                 ⟨(some 10), (.mov (.c (.str []))), none⟩])
               (.seq
                (.seq
                 (.ops [
                   ⟨(some 30), (.fldA 0 (.t 9)), none⟩,
                   ⟨(some 31), (.load1 (.t 30)), none⟩,
                   ⟨(some 32), (.bin .geq (.t 31) (.c (.int .i64 0))), none⟩,
                   ⟨(some 33), (.mov (.t 32)), none⟩,
                   ⟨(some 34), (.fldA 0 (.t 9)), (some (33, true))⟩,
                   ⟨(some 35), (.load1 (.t 34)), (some (33, true))⟩,
                   ⟨(some 36), (.bin .lss (.t 35) (.c (.int .i64 5))), (some (33, true))⟩,
                   ⟨(some 37), (.pick (.t 33) (.t 36) (.c (.bool false))), none⟩])
                 (.cond (.t 37)
                  (.ops [
                    ⟨(some 38), (.fldA 0 (.t 9)), none⟩,
                    ⟨(some 39), (.load1 (.t 38)), none⟩,
                    ⟨(some 40), (.idxA 5 1 (.t 6) (.t 39)), none⟩,
                    ⟨(some 41), (.load1 (.t 40)), none⟩,
                    ⟨(some 10), (.mov (.t 41)), none⟩])
                  .skip))
                (.drawR [(⟨(some 42), (.mov (.t 7)), none⟩, ([], false)), (⟨(some 43), (.fldA 1 (.t 2)), none⟩, ([], false)), (⟨(some 44), (.load1 (.t 43)), none⟩, ([], false)), (⟨(some 45), (.mov (.t 8)), none⟩, ([], false)), (⟨(some 46), (.idxS 7 (.t 44) (.t 45)), none⟩, ([], false)), (⟨(some 47), (.fldA 0 (.t 46)), none⟩, ([], false)), (⟨(some 48), (.load1 (.t 47)), none⟩, ([], false)), (⟨(some 49), (.pcall (.f 7) [(.t 48)]), none⟩, ([], false)), (⟨(some 50), (.bin .add (.c (.str [123, 34, 110, 97, 109, 101, 34, 58])) (.t 49)), none⟩, ([], false)), (⟨(some 51), (.bin .add (.t 50) (.c (.str [44, 34, 115, 116, 97, 116, 117, 115, 34, 58]))), none⟩, ([], false)), (⟨(some 52), (.mov (.t 10)), none⟩, ([], false)), (⟨(some 53), (.pcall (.f 7) [(.t 52)]), none⟩, ([], false)), (⟨(some 54), (.bin .add (.t 51) (.t 53)), none⟩, ([], false)), (⟨(some 55), (.bin .add (.t 54) (.c (.str [44, 34, 116, 114, 121, 34, 58]))), none⟩, ([], false)), (⟨(some 56), (.fldA 1 (.t 9)), none⟩, ([], false)), (⟨(some 57), (.load1 (.t 56)), none⟩, ([], false)), (⟨(some 58), (.pcall (.f 18) [(.t 57)]), none⟩, ([], false)), (⟨(some 59), (.bin .add (.t 55) (.t 58)), none⟩, ([], false)), (⟨(some 60), (.bin .add (.t 59) (.c (.str [44, 34, 116, 101, 120, 116, 34, 58]))), none⟩, ([], false)), (⟨(some 61), (.fldA 2 (.t 9)), none⟩, ([], false)), (⟨(some 62), (.load1 (.t 61)), none⟩, ([], false)), (⟨(some 63), (.pcall (.f 7) [(.t 62)]), none⟩, ([], false)), (⟨(some 64), (.bin .add (.t 60) (.t 63)), none⟩, ([], false)), (⟨(some 65), (.bin .add (.t 64) (.c (.str [125]))), none⟩, ([], false)), (⟨(some 66), (.bslice 1 [(.str [])] 1 [(0, (.t 65))]), none⟩, ([], false)), (⟨(some 67), (.append 1 16 (.t 42) (.t 66)), none⟩, ([], false)), (⟨(some 7), (.mov (.t 67)), none⟩, ([], false))])))))
            (.ops [
              ⟨(some 68), (.bin .add (.t 25) (.c (.int .i64 1))), none⟩,
              ⟨(some 25), (.mov (.t 68)), none⟩])))))))
      (.seq
       (.drawE [
         ⟨(some 69), (.fldA 1 (.t 3)), none⟩,
         ⟨(some 70), (.load1 (.t 69)), none⟩,
         ⟨(some 71), (.pcall (.f 7) [(.t 70)]), none⟩,
         ⟨(some 72), (.bin .add (.c (.str [123, 34, 102, 108, 111, 119, 34, 58])) (.t 71)), none⟩,
         ⟨(some 73), (.bin .add (.t 72) (.c (.str [44, 34, 100, 101, 102, 34, 58]))), none⟩,
         ⟨(some 74), (.fldA 0 (.t 3)), none⟩,
         ⟨(some 75), (.load1 (.t 74)), none⟩,
         ⟨(some 76), (.pcall (.f 7) [(.t 75)]), none⟩,
         ⟨(some 77), (.bin .add (.t 73) (.t 76)), none⟩,
         ⟨(some 78), (.bin .add (.t 77) (.c (.str [44, 34, 115, 116, 97, 116, 117, 115, 34, 58]))), none⟩,
         ⟨(some 79), (.fldA 4 (.t 3)), none⟩,
         ⟨(some 80), (.load1 (.t 79)), none⟩,
         ⟨(some 81), (.pcall (.f 33) [(.t 80)]), none⟩,
         ⟨(some 82), (.pcall (.f 7) [(.t 81)]), none⟩,
         ⟨(some 83), (.bin .add (.t 78) (.t 82)), none⟩,
         ⟨(some 84), (.bin .add (.t 83) (.c (.str [44, 34, 116, 101, 120, 116, 34, 58]))), none⟩,
         ⟨(some 85), (.fldA 5 (.t 3)), none⟩,
         ⟨(some 86), (.load1 (.t 85)), none⟩,
         ⟨(some 87), (.pcall (.f 7) [(.t 86)]), none⟩,
         ⟨(some 88), (.bin .add (.t 84) (.t 87)), none⟩,
         ⟨(some 89), (.bin .add (.t 88) (.c (.str [44, 34, 101, 118, 101, 110, 116, 115, 34, 58]))), none⟩,
         ⟨(some 90), (.fldA 8 (.t 3)), none⟩,
         ⟨(some 91), (.load1 (.t 90)), none⟩,
         ⟨(some 92), (.pcall (.f 18) [(.t 91)]), none⟩,
         ⟨(some 93), (.bin .add (.t 89) (.t 92)), none⟩,
         ⟨(some 94), (.bin .add (.t 93) (.c (.str [44, 34, 111, 118, 101, 114, 34, 58]))), none⟩,
         ⟨(some 95), (.mov (.t 5)), none⟩,
         ⟨(some 96), (.ex (.ru .re) [(.t 95)]), none⟩,
         ⟨(some 97), (.ex (.ru (.toInt .i64)) [(.t 96)]), none⟩,
         ⟨(some 98), (.pcall (.f 18) [(.t 97)]), none⟩,
         ⟨(some 99), (.bin .add (.t 94) (.t 98)), none⟩,
         ⟨(some 100), (.bin .add (.t 99) (.c (.str [44, 34, 108, 101, 102, 116, 34, 58]))), none⟩,
         ⟨(some 101), (.mov (.t 5)), none⟩,
         ⟨(some 102), (.ex (.ru .im) [(.t 101)]), none⟩,
         ⟨(some 103), (.ex (.ru (.toInt .i64)) [(.t 102)]), none⟩,
         ⟨(some 104), (.pcall (.f 18) [(.t 103)]), none⟩,
         ⟨(some 105), (.bin .add (.t 100) (.t 104)), none⟩,
         ⟨(some 106), (.bin .add (.t 105) (.c (.str [44, 34, 110, 111, 100, 101, 115, 34, 58, 91]))), none⟩,
         ⟨(some 107), (.mov (.t 7)), none⟩,
         ⟨(some 108), (.pcall (.f 34) [(.t 107), (.c (.str [44]))]), none⟩,
         ⟨(some 109), (.bin .add (.t 106) (.t 108)), none⟩,
         ⟨(some 110), (.bin .add (.t 109) (.c (.str [93, 125]))), none⟩,
         ⟨(some 4), (.mov (.t 110)), none⟩])
       .ret))))))

section
variable {E : Env} {ρ : Rho} {L : List Blk} {K : IV → List Blk → Prop}
/-- A node of a definition: its name, and all else. -/
structure DN where
  nm : List UInt8
  rest : List IV
def dnRow (x : DN) : List IV := .str x.nm :: x.rest
def dnRows (l : List DN) : List (List IV) := l.map dnRow
def DnOk (l : List DN) : Prop := ∀ x ∈ l, x.rest.length = 6 ∧ x.nm.length ≤ 1048576
theorem dnRows_len (l : List DN) : (dnRows l).length = l.length := by simp [dnRows]
theorem rows_dn {l : List DN} (h : DnOk l) : Rows 7 (dnRows l) = True := eq_true (fun row hr => by
  simp only [dnRows, List.mem_map] at hr
  obtain ⟨x, hx, rfl⟩ := hr
  show x.rest.length + 1 = 7
  have := (h x hx).1; omega)
theorem dnRows_get {l : List DN} {i : Nat} (h : i < l.length) : (dnRows l).getD i [] = .str (l.getD i ⟨[], []⟩).nm :: (l.getD i ⟨[], []⟩).rest := by
  rw [dnRows, List.getD_eq_getElem?_getD, List.getElem?_map, List.getElem?_eq_getElem h, List.getD_eq_getElem?_getD, List.getElem?_eq_getElem h]; rfl
theorem getD_mem' {α : Type} {l : List α} {i : Nat} {d : α} (h : i < l.length) : l.getD i d ∈ l := by
  rw [List.getD_eq_getElem?_getD, List.getElem?_eq_getElem h]; exact List.getElem_mem _
/-- Numbers as they are; texts of a size that can be written. -/
def NsOk (l : List NS) : Prop := ∀ x ∈ l, x.tx.length ≤ 1048576 ∧ -9223372036854775808 ≤ x.tr ∧ x.tr ≤ 9223372036854775807
structure SS.Ok (s : SS) : Prop where
  ns : NsOk s.ns
  n : s.ns.length ≤ 40
  df : s.df.length ≤ 1048576
  id : s.id.length ≤ 1048576
  tx : s.tx.length ≤ 1048576
  ev0 : -9223372036854775808 ≤ s.ev
  ev1 : s.ev ≤ 9223372036854775807
def nodeT (nm : List UInt8) (x : NS) : List UInt8 :=
  [123, 34, 110, 97, 109, 101, 34, 58] ++ quoteF nm ++ [44, 34, 115, 116, 97, 116, 117, 115, 34, 58] ++ quoteF (standF x.st) ++ [44, 34, 116, 114, 121, 34, 58] ++ Lib.itoa x.tr ++ [44, 34, 116, 101, 120, 116, 34, 58] ++ quoteF x.tx ++ [125]
def nodesL (ds : List DN) (ns : List NS) : List (List UInt8) := List.zipWith (fun d x => nodeT d.nm x) ds ns
def headT (s : SS) : List UInt8 :=
  [123, 34, 102, 108, 111, 119, 34, 58] ++ quoteF s.id ++ [44, 34, 100, 101, 102, 34, 58] ++ quoteF s.df ++ [44, 34, 115, 116, 97, 116, 117, 115, 34, 58] ++ quoteF (wordsF s.st) ++ [44, 34, 116, 101, 120, 116, 34, 58] ++ quoteF s.tx ++
  [44, 34, 101, 118, 101, 110, 116, 115, 34, 58] ++ Lib.itoa s.ev ++ [44, 34, 111, 118, 101, 114, 34, 58] ++ Lib.itoa (overN s.ns) ++ [44, 34, 108, 101, 102, 116, 34, 58] ++ Lib.itoa ((s.ns.length : Int) - overN s.ns) ++ [44, 34, 110, 111, 100, 101, 115, 34, 58, 91]
def stateF (ds : List DN) (s : SS) : List UInt8 := headT s ++ Lib.join (nodesL ds s.ns) [44] ++ [93, 125]
theorem nodeT_len (nm : List UInt8) (x : NS) (h : nm.length ≤ 1048576) (hx : x.tx.length ≤ 1048576 ∧ -9223372036854775808 ≤ x.tr ∧ x.tr ≤ 9223372036854775807) : (nodeT nm x).length ≤ 13000000 := by
  have a1 := quoteF_len nm
  have a2 := quoteF_len (standF x.st)
  have a3 := stand_len x.st
  have a4 := quoteF_len x.tx
  have a5 := itoa_len x.tr hx.2.1 hx.2.2
  unfold nodeT
  first | omega | (simp only [List.length_append, List.length_cons, List.length_nil]; omega)
theorem headT_len (s : SS) (h : s.Ok) : (headT s).length ≤ 20000000 := by
  have a1 := quoteF_len s.id
  have a2 := quoteF_len s.df
  have a3 := quoteF_len s.tx
  have a4 := quoteF_len (wordsF s.st)
  have a5 := words_len s.st
  have a6 := itoa_len s.ev h.ev0 h.ev1
  have hle := overN_le s.ns
  have hn := h.n
  have a7 := itoa_len (overN s.ns) (by omega) (by omega)
  have a8 := itoa_len ((s.ns.length : Int) - overN s.ns) (by omega) (by omega)
  have b1 := h.id
  have b2 := h.df
  have b3 := h.tx
  unfold headT
  first | omega | (simp only [List.length_append, List.length_cons, List.length_nil]; omega)
theorem nodesL_len (ds : List DN) (ns : List NS) : (nodesL ds ns).length = min ds.length ns.length := by simp [nodesL]
theorem nodesL_take (ds : List DN) (ns : List NS) (i : Nat) (h1 : i < ds.length) (h2 : i < ns.length) : (nodesL ds ns).take (i + 1) = (nodesL ds ns).take i ++ [nodeT (ds.getD i ⟨[], []⟩).nm (ns.getD i ⟨0, 0, []⟩)] := by
  have hl : i < (nodesL ds ns).length := by rw [nodesL_len]; omega
  rw [List.take_add_one, List.getElem?_eq_getElem hl]
  congr 1
  show [_] = _
  congr 1
  rw [List.getD_eq_getElem?_getD, List.getElem?_eq_getElem h1, List.getD_eq_getElem?_getD, List.getElem?_eq_getElem h2]
  simp [nodesL]
theorem sRows_app (a b : List (List UInt8)) : sRows (a ++ b) = sRows a ++ sRows b := List.map_append ..
theorem join_len (B : Nat) (sep : List UInt8) : ∀ l : List (List UInt8), (∀ x ∈ l, x.length ≤ B) → (Lib.join l sep).length ≤ l.length * (B + sep.length)
  | [], _ => by simp [Lib.join]
  | [x], h => by
    have := h x (by simp)
    simp [Lib.join]; omega
  | x :: y :: r, h => by
    have h1 := h x (by simp)
    have h2 := join_len B sep (y :: r) (fun z hz => h z (by simp [hz]))
    have e : Lib.join (x :: y :: r) sep = x ++ sep ++ Lib.join (y :: r) sep := by simp [Lib.join, List.intercalate, List.intersperse]
    rw [e, List.length_append, List.length_append]
    have : (x :: y :: r).length * (B + sep.length) = (y :: r).length * (B + sep.length) + (B + sep.length) := by rw [List.length_cons, Nat.add_mul, Nat.one_mul]
    omega
theorem nodes_len {ds : List DN} {ns : List NS} (hd : DnOk ds) (hs : NsOk ns) : ∀ x ∈ nodesL ds ns, x.length ≤ 13000000 := by
  intro x hx
  obtain ⟨i, hi, rfl⟩ := List.getElem_of_mem hx
  rw [nodesL_len] at hi
  simp only [nodesL, List.getElem_zipWith]
  exact nodeT_len _ _ (hd _ (List.getElem_mem _)).2 (hs _ (List.getElem_mem _))
theorem out_grow' {sz : Nat} {p L : List Blk} {rows : List (List IV)} {v : IV} {b : Blk} (h : OutOk sz p rows v L) : OutOk sz p rows v (L ++ [b]) := by
  obtain ⟨J, rfl, h⟩ := h
  refine ⟨J ++ [b], by simp, ?_⟩
  rcases h with h | ⟨s, h1, h2, h3⟩
  · exact .inl h
  · exact .inr ⟨s, h1, h2, get_app h3⟩
abbrev wordC : List IV := [.str [105, 100, 108, 101], .str [114, 101, 97, 100, 121], .str [98, 117, 115, 121], .str [111, 118, 101, 114], .str [98, 97, 100]]
abbrev stP (nm : List UInt8) (ds : List DN) (s : SS) : List Blk := [.cells 2 [[.str nm, .isl (dnRows ds)]], .cells 9 [s.cells], .cells 5 [wordC]]
theorem state_pure (hP : E.P = Tryz.prog) (ht : ∀ w, E.G w → Lib.Utf8Tabs 0 1 w) (hp : ∀ w, E.G w → Lib.TabIs Tryz.prog w "internal/strconv.uint64pow10" .u64 Lib.pow10Tab)
    (nm : List UInt8) (ds : List DN) (s : SS) (hd : DnOk ds) (hs : s.Ok) (hdn : ds.length ≤ 40) : XPure E 16 [.agg [.str nm, .isl (dnRows ds)], .agg s.cells] (.str (stateF ds s)) := by
  refine xpure1 (n := Tryz.f16.ntmps) (c := q16) (t := 4) (by rw [hP]; rfl) (by rw [hP]; kernel_rfl) (by decide) (Nat.le_of_ble_eq_true rfl) ?_
  generalize hρ : entry _ = ρ
  have h0 : ρ 0 = .agg [.str nm, .isl (dnRows ds)] := by rw [← hρ]; rfl
  have h1 : ρ 1 = .agg s.cells := by rw [← hρ]; rfl
  clear hρ
  unfold q16
  have hn := hs.n
  simp only [h0, h1, SS.cells, go_sem, Nat.reduceEqDiff, reduceIte, Int.reduceEq, Int.reduceLT, Int.reduceLE, Nat.reduceAdd, Nat.reduceLT, Nat.reduceLeDiff, Int.reduceToNat, Int.reduceSub, Int.reduceAdd, Int.reduceNeg]
  refine xcall_pure (args' := [.agg s.cells]) rfl (count_pure (E := E.noPan) hP s hn) rfl ?_
  obtain ⟨m, hm⟩ : ∃ m : Nat, m = min ds.length s.ns.length := ⟨_, rfl⟩
  have em : (if ((ds.length : Nat) : Int) < ((s.ns.length : Nat) : Int) then ((ds.length : Nat) : Int) else ((s.ns.length : Nat) : Int)) = (m : Int) := by
    split <;> omega
  have e00 : ((0 : Int) ≤ (m : Int)) = True := eq_true (by omega)
  have ems : (m ≤ s.ns.length) = True := eq_true (by omega)
  simp only [h0, h1, nsRows_len, dnRows_len, SS.cells, em, e00, ems, rows_ns, Int.toNat_natCast, go_sem, Nat.reduceEqDiff, reduceIte, Int.reduceEq, Int.reduceLT, Int.reduceLE, Nat.reduceAdd, Nat.reduceLT, Nat.reduceLeDiff, Int.reduceToNat, Int.reduceSub, Int.reduceAdd, Int.reduceNeg]
  have hok := headT_len s hs
  refine xrun_cut (fun e ρ' L' => e = .exit 0 ∧ OutOk 1 (stP nm ds s) (sRows (nodesL ds s.ns)) (ρ' 7) L' ∧ ρ' 3 = .ptr 1 0 0 ∧ ρ' 5 = .raw (.complex .f64 (fl (overN s.ns)) (fl (s.ns.length - overN s.ns)))) ?_ ?_
  · refine s_loop (fun n ρ L => ∃ i : Nat, i ≤ m ∧ n = m - i ∧ OutOk 1 (stP nm ds s) (sRows ((nodesL ds s.ns).take i)) (ρ 7) L ∧ ρ 2 = .ptr 0 0 0 ∧ ρ 3 = .ptr 1 0 0 ∧ ρ 6 = .ptr 2 0 0 ∧ ρ 5 = .raw (.complex .f64 (fl (overN s.ns)) (fl (s.ns.length - overN s.ns))) ∧
        ρ 23 = .isl ((nsRows s.ns).take m) ∧ ρ 24 = .int .i64 m ∧ ρ 25 = .int .i64 i) (n := m)
      ⟨0, Nat.zero_le _, rfl, out_nil (p := stP nm ds s) (J := []), by simp only [go_sem, Nat.reduceEqDiff, reduceIte, Int.reduceEq, Int.reduceLT, Int.reduceLE, Nat.reduceAdd, Nat.reduceLT, Nat.reduceLeDiff, Int.reduceToNat, Int.reduceSub, Int.reduceAdd, Int.reduceNeg], by simp only [go_sem, Nat.reduceEqDiff, reduceIte, Int.reduceEq, Int.reduceLT, Int.reduceLE, Nat.reduceAdd, Nat.reduceLT, Nat.reduceLeDiff, Int.reduceToNat, Int.reduceSub, Int.reduceAdd, Int.reduceNeg], by simp only [go_sem, Nat.reduceEqDiff, reduceIte, Int.reduceEq, Int.reduceLT, Int.reduceLE, Nat.reduceAdd, Nat.reduceLT, Nat.reduceLeDiff, Int.reduceToNat, Int.reduceSub, Int.reduceAdd, Int.reduceNeg], by simp only [go_sem, Nat.reduceEqDiff, reduceIte, Int.reduceEq, Int.reduceLT, Int.reduceLE, Nat.reduceAdd, Nat.reduceLT, Nat.reduceLeDiff, Int.reduceToNat, Int.reduceSub, Int.reduceAdd, Int.reduceNeg], by simp only [go_sem, Nat.reduceEqDiff, reduceIte, Int.reduceEq, Int.reduceLT, Int.reduceLE, Nat.reduceAdd, Nat.reduceLT, Nat.reduceLeDiff, Int.reduceToNat, Int.reduceSub, Int.reduceAdd, Int.reduceNeg]; try rfl, by simp only [go_sem, Nat.reduceEqDiff, reduceIte, Int.reduceEq, Int.reduceLT, Int.reduceLE, Nat.reduceAdd, Nat.reduceLT, Nat.reduceLeDiff, Int.reduceToNat, Int.reduceSub, Int.reduceAdd, Int.reduceNeg]; rw [List.length_take, nsRows_len, Nat.min_eq_left (by omega)], by simp only [go_sem, Nat.reduceEqDiff, reduceIte, Int.reduceEq, Int.reduceLT, Int.reduceLE, Nat.reduceAdd, Nat.reduceLT, Nat.reduceLeDiff, Int.reduceToNat, Int.reduceSub, Int.reduceAdd, Int.reduceNeg]; try rfl⟩ ?_
    clear h0 h1 ρ
    rintro n ρ L ⟨i, hi, rfl, hO, h2, h3, h6, h5, h23, h24, h25⟩
    by_cases him : i < m
    case neg =>
      have e1 : ((i : Int) < (m : Int)) = False := eq_false (by omega)
      have hte : (nodesL ds s.ns).take i = nodesL ds s.ns := List.take_of_length_le (by rw [nodesL_len]; omega)
      rw [hte] at hO
      simp only [h2, h3, h5, h6, h24, h25, e1, go_sem, Nat.reduceEqDiff, reduceIte, Int.reduceEq, Int.reduceLT, Int.reduceLE, Nat.reduceAdd, Nat.reduceLT, Nat.reduceLeDiff, Int.reduceToNat, Int.reduceSub, Int.reduceAdd, Int.reduceNeg]
      exact hO
    have e1 : ((i : Int) < (m : Int)) = True := eq_true (by omega)
    have e0 : ((0 : Int) ≤ (i : Int)) = True := eq_true (by omega)
    have eis : (i < s.ns.length) = True := eq_true (by omega)
    have eid : (i < ds.length) = True := eq_true (by omega)
    have hr3 : Rows 3 ((nsRows s.ns).take m) = True := eq_true (fun row hr => by
      have := (rows_ns s.ns).mpr trivial
      exact this row (List.mem_of_mem_take hr))
    have hl3 : ((nsRows s.ns).take m).length = m := by rw [List.length_take, nsRows_len]; omega
    have hg : ((nsRows s.ns).take m).getD i [] = [.int .i64 (s.ns.getD i ⟨0, 0, []⟩).st, .int .i64 (s.ns.getD i ⟨0, 0, []⟩).tr, .str (s.ns.getD i ⟨0, 0, []⟩).tx] := by
      rw [← nsRows_get (by omega), List.getD_eq_getElem?_getD, List.getElem?_take_of_lt him, ← List.getD_eq_getElem?_getD]
    have hgd := dnRows_get (l := ds) (i := i) (by omega)
    have hw : IntKind.i64.wrap ((i : Int) + 1) = ((i + 1 : Nat) : Int) := by rw [wrap64 (by omega) (by omega)]; rfl
    have htk := nodesL_take ds s.ns i (by omega) (by omega)
    have hx := hs.ns _ (getD_mem' (d := ⟨0, 0, []⟩) (show i < s.ns.length by omega))
    have hdx := hd _ (getD_mem' (d := ⟨[], []⟩) (show i < ds.length by omega))
    generalize s.ns.getD i ⟨0, 0, []⟩ = x at *
    generalize ds.getD i ⟨[], []⟩ = y at *
    obtain ⟨g0, g1, g2⟩ : L[0]? = some (.cells 2 [[.str nm, .isl (dnRows ds)]]) ∧ L[1]? = some (.cells 9 [s.cells]) ∧ L[2]? = some (.cells 5 [wordC]) := by
      obtain ⟨J, rfl, _⟩ := hO; exact ⟨rfl, rfl, rfl⟩
    simp only [h2, h3, h5, h6, h23, h24, h25, e0, e1, hr3, hl3, hg, Int.toNat_natCast, go_sem, Nat.reduceEqDiff, reduceIte, Int.reduceEq, Int.reduceLT, Int.reduceLE, Nat.reduceAdd, Nat.reduceLT, Nat.reduceLeDiff, Int.reduceToNat, Int.reduceSub, Int.reduceAdd, Int.reduceNeg]
    refine ⟨him, ?_⟩
    repeat (refine s_mg (by simp only [h2, h3, h5, h6, h23, h24, h25, e0, e1, go_sem, Nat.reduceEqDiff, reduceIte, Int.reduceEq, Int.reduceLT, Int.reduceLE, Nat.reduceAdd, Nat.reduceLT, Nat.reduceLeDiff, Int.reduceToNat, Int.reduceSub, Int.reduceAdd, Int.reduceNeg]; try rfl) ?_; simp only [cut_g, cut_t, cut_none, cut_out, memN_cons, memN_nil, Nat.reduceEqDiff, reduceIte, List.nil_append, List.cons_append, not_false_eq_true]; refine ex_merge rfl (by simp only [h2, h3, h5, h6, h23, h24, h25, e0, e1, go_sem, Nat.reduceEqDiff, reduceIte, Int.reduceEq, Int.reduceLT, Int.reduceLE, Nat.reduceAdd, Nat.reduceLT, Nat.reduceLeDiff, Int.reduceToNat, Int.reduceSub, Int.reduceAdd, Int.reduceNeg]) (by intro hb; simp only [hb, h2, h3, h5, h6, h23, h24, h25, e0, e1, go_sem, Nat.reduceEqDiff, reduceIte, Int.reduceEq, Int.reduceLT, Int.reduceLE, Nat.reduceAdd, Nat.reduceLT, Nat.reduceLeDiff, Int.reduceToNat, Int.reduceSub, Int.reduceAdd, Int.reduceNeg]; (repeat (refine s_mg (by simp only [h2, h3, h5, h6, h23, h24, h25, e0, e1, go_sem, Nat.reduceEqDiff, reduceIte, Int.reduceEq, Int.reduceLT, Int.reduceLE, Nat.reduceAdd, Nat.reduceLT, Nat.reduceLeDiff, Int.reduceToNat, Int.reduceSub, Int.reduceAdd, Int.reduceNeg]; try rfl) ?_; simp only [cut_g, cut_t, cut_none, cut_out, memN_cons, memN_nil, Nat.reduceEqDiff, reduceIte, List.nil_append, List.cons_append, not_false_eq_true]; refine ex_merge rfl (by simp only [h2, h3, h5, h6, h23, h24, h25, e0, e1, go_sem, Nat.reduceEqDiff, reduceIte, Int.reduceEq, Int.reduceLT, Int.reduceLE, Nat.reduceAdd, Nat.reduceLT, Nat.reduceLeDiff, Int.reduceToNat, Int.reduceSub, Int.reduceAdd, Int.reduceNeg]) (by intro hb; simp only [hb, h2, h3, h5, h6, h23, h24, h25, e0, e1, go_sem, Nat.reduceEqDiff, reduceIte, Int.reduceEq, Int.reduceLT, Int.reduceLE, Nat.reduceAdd, Nat.reduceLT, Nat.reduceLeDiff, Int.reduceToNat, Int.reduceSub, Int.reduceAdd, Int.reduceNeg]; (repeat (refine s_mg (by simp only [h2, h3, h5, h6, h23, h24, h25, e0, e1, go_sem, Nat.reduceEqDiff, reduceIte, Int.reduceEq, Int.reduceLT, Int.reduceLE, Nat.reduceAdd, Nat.reduceLT, Nat.reduceLeDiff, Int.reduceToNat, Int.reduceSub, Int.reduceAdd, Int.reduceNeg]; try rfl) ?_; simp only [cut_g, cut_t, cut_none, cut_out, memN_cons, memN_nil, Nat.reduceEqDiff, reduceIte, List.nil_append, List.cons_append, not_false_eq_true]; refine ex_merge rfl (by simp only [h2, h3, h5, h6, h23, h24, h25, e0, e1, go_sem, Nat.reduceEqDiff, reduceIte, Int.reduceEq, Int.reduceLT, Int.reduceLE, Nat.reduceAdd, Nat.reduceLT, Nat.reduceLeDiff, Int.reduceToNat, Int.reduceSub, Int.reduceAdd, Int.reduceNeg]) (by intro hb; simp only [hb, h2, h3, h5, h6, h23, h24, h25, e0, e1, go_sem, Nat.reduceEqDiff, reduceIte, Int.reduceEq, Int.reduceLT, Int.reduceLE, Nat.reduceAdd, Nat.reduceLT, Nat.reduceLeDiff, Int.reduceToNat, Int.reduceSub, Int.reduceAdd, Int.reduceNeg]; first | exact rfl | exact ⟨rfl, rfl⟩) (fun vs => ?_); simp only [h2, h3, h5, h6, h23, h24, h25, e0, e1, go_sem, Nat.reduceEqDiff, reduceIte, Int.reduceEq, Int.reduceLT, Int.reduceLE, Nat.reduceAdd, Nat.reduceLT, Nat.reduceLeDiff, Int.reduceToNat, Int.reduceSub, Int.reduceAdd, Int.reduceNeg])); first | exact rfl | exact ⟨rfl, rfl⟩) (fun vs => ?_); simp only [h2, h3, h5, h6, h23, h24, h25, e0, e1, go_sem, Nat.reduceEqDiff, reduceIte, Int.reduceEq, Int.reduceLT, Int.reduceLE, Nat.reduceAdd, Nat.reduceLT, Nat.reduceLeDiff, Int.reduceToNat, Int.reduceSub, Int.reduceAdd, Int.reduceNeg])); first | exact rfl | exact ⟨rfl, rfl⟩) (fun vs => ?_); simp only [h2, h3, h5, h6, h23, h24, h25, e0, e1, go_sem, Nat.reduceEqDiff, reduceIte, Int.reduceEq, Int.reduceLT, Int.reduceLE, Nat.reduceAdd, Nat.reduceLT, Nat.reduceLeDiff, Int.reduceToNat, Int.reduceSub, Int.reduceAdd, Int.reduceNeg])
    have hgk : ∀ k : Blk, (L ++ [k])[0]? = some (.cells 2 [[.str nm, .isl (dnRows ds)]]) ∧ (L ++ [k])[2]? = some (.cells 5 [wordC]) := fun k => ⟨get_app g0, get_app g2⟩
    obtain ⟨gb0, gb2⟩ := hgk (Blk.cells 3 [[IV.int .i64 x.st, IV.int .i64 x.tr, IV.str x.tx]])
    refine xrun_cut (fun e ρ' L' => e = .normal ∧ L' = L ++ [Blk.cells 3 [[IV.int .i64 x.st, IV.int .i64 x.tr, IV.str x.tx]]] ∧ ρ' 2 = .ptr 0 0 0 ∧ ρ' 3 = .ptr 1 0 0 ∧ ρ' 6 = .ptr 2 0 0 ∧ ρ' 5 = .raw (.complex .f64 (fl (overN s.ns)) (fl (s.ns.length - overN s.ns))) ∧
        ρ' 23 = .isl ((nsRows s.ns).take m) ∧ ρ' 24 = .int .i64 m ∧ ρ' 25 = .int .i64 i ∧ ρ' 7 = ρ 7 ∧ ρ' 8 = .int .i64 i ∧ ρ' 9 = .ptr L.length 0 0 ∧ ρ' 10 = .str (standF x.st)) ?_ ?_
    · refine s_cond (b := (decide (0 ≤ x.st) && decide (x.st < 5))) (by simp only [h2, h3, h5, h6, h23, h24, h25, e0, e1, go_sem, Nat.reduceEqDiff, reduceIte, Int.reduceEq, Int.reduceLT, Int.reduceLE, Nat.reduceAdd, Nat.reduceLT, Nat.reduceLeDiff, Int.reduceToNat, Int.reduceSub, Int.reduceAdd, Int.reduceNeg]; try rfl) ?_ ?_ <;> intro hc <;> simp only [hc, h2, h3, h5, h6, h23, h24, h25, e0, e1, go_sem, Nat.reduceEqDiff, reduceIte, Int.reduceEq, Int.reduceLT, Int.reduceLE, Nat.reduceAdd, Nat.reduceLT, Nat.reduceLeDiff, Int.reduceToNat, Int.reduceSub, Int.reduceAdd, Int.reduceNeg]
      · rw [Bool.and_eq_true, decide_eq_true_eq, decide_eq_true_eq] at hc
        obtain ⟨k, hk⟩ : ∃ k : Fin 5, x.st = (k.val : Int) := ⟨⟨x.st.toNat, by omega⟩, by simp; omega⟩
        have hs5 : standF x.st = standL.getD k.val [] := by unfold standF; rw [if_pos hc, hk]; rfl
        rw [hs5]
        rw [hk] at gb2 ⊢
        match k with
        | 0 | 1 | 2 | 3 | 4 => simp only [h2, h3, h5, h6, h23, h24, h25, e0, e1, gb2, go_sem, Nat.reduceEqDiff, reduceIte, Int.reduceEq, Int.reduceLT, Int.reduceLE, Nat.reduceAdd, Nat.reduceLT, Nat.reduceLeDiff, Int.reduceToNat, Int.reduceSub, Int.reduceAdd, Int.reduceNeg]; exact ⟨by decide, by decide, rfl⟩
      · have hs5 : standF x.st = [] := by unfold standF; rw [if_neg (fun h => by rw [Bool.and_eq_false_iff, decide_eq_false_iff_not, decide_eq_false_iff_not] at hc; omega)]
        simp only [h2, h3, h5, h6, h23, h24, h25, e0, e1, hs5, go_sem, Nat.reduceEqDiff, reduceIte, Int.reduceEq, Int.reduceLT, Int.reduceLE, Nat.reduceAdd, Nat.reduceLT, Nat.reduceLeDiff, Int.reduceToNat, Int.reduceSub, Int.reduceAdd, Int.reduceNeg]
    rintro e ρ' L' ⟨rfl, rfl, k2, k3, k6, k5, k23, k24, k25, k7, k8, k9, k10⟩
    generalize ρ 7 = v at *
    clear h2 h3 h5 h6 h23 h24 h25 vs ρ
    simp only [k2, k3, k5, k6, k7, k8, k9, k10, k23, k24, k25, gb0, e0, rows_dn hd, dnRows_len, eid, hgd, Int.toNat_natCast, go_sem, Nat.reduceEqDiff, reduceIte, Int.reduceEq, Int.reduceLT, Int.reduceLE, Nat.reduceAdd, Nat.reduceLT, Nat.reduceLeDiff, Int.reduceToNat, Int.reduceSub, Int.reduceAdd, Int.reduceNeg]
    refine ⟨by omega, by omega, ?_⟩
    have hxl := hx.1
    have hyl := hdx.2
    have hsl := stand_len x.st
    have hnt : nodeT y.nm x = nodeT y.nm x := rfl
    conv at hnt => rhs; unfold nodeT
    have hnl := nodeT_len y.nm x hyl hx
    refine o_pcall (args' := [.str y.nm]) rfl (quote_pure (E := E.noPan) hP ht _ (by omega)) (fun m => rfl) ?_
    have hq1 := quoteF_len y.nm
    generalize quoteF y.nm = q1 at *
    simp only [k2, k3, k5, k6, k7, k8, k9, k10, k23, k24, k25, gb0, e0, rows_dn hd, dnRows_len, eid, hgd, Int.toNat_natCast, go_sem, Nat.reduceEqDiff, reduceIte, Int.reduceEq, Int.reduceLT, Int.reduceLE, Nat.reduceAdd, Nat.reduceLT, Nat.reduceLeDiff, Int.reduceToNat, Int.reduceSub, Int.reduceAdd, Int.reduceNeg]
    refine ⟨by first | omega | (simp only [List.length_append, List.length_cons, List.length_nil]; omega), by first | omega | (simp only [List.length_append, List.length_cons, List.length_nil]; omega), ?_⟩
    refine o_pcall (args' := [.str (standF x.st)]) rfl (quote_pure (E := E.noPan) hP ht _ (by omega)) (fun m => rfl) ?_
    have hq2 := quoteF_len (standF x.st)
    generalize quoteF (standF x.st) = q2 at *
    simp only [k2, k3, k5, k6, k7, k8, k9, k10, k23, k24, k25, gb0, e0, rows_dn hd, dnRows_len, eid, hgd, Int.toNat_natCast, go_sem, Nat.reduceEqDiff, reduceIte, Int.reduceEq, Int.reduceLT, Int.reduceLE, Nat.reduceAdd, Nat.reduceLT, Nat.reduceLeDiff, Int.reduceToNat, Int.reduceSub, Int.reduceAdd, Int.reduceNeg]
    refine ⟨by first | omega | (simp only [List.length_append, List.length_cons, List.length_nil]; omega), by first | omega | (simp only [List.length_append, List.length_cons, List.length_nil]; omega), ?_⟩
    refine o_pcall (args' := [.int .i64 x.tr]) rfl (itoa_pure (E := E.noPan) hP hp _ hx.2.1 hx.2.2) (fun m => rfl) ?_
    have hq3 := itoa_len x.tr hx.2.1 hx.2.2
    generalize Lib.itoa x.tr = q3 at *
    simp only [k2, k3, k5, k6, k7, k8, k9, k10, k23, k24, k25, gb0, e0, rows_dn hd, dnRows_len, eid, hgd, Int.toNat_natCast, go_sem, Nat.reduceEqDiff, reduceIte, Int.reduceEq, Int.reduceLT, Int.reduceLE, Nat.reduceAdd, Nat.reduceLT, Nat.reduceLeDiff, Int.reduceToNat, Int.reduceSub, Int.reduceAdd, Int.reduceNeg]
    refine ⟨by first | omega | (simp only [List.length_append, List.length_cons, List.length_nil]; omega), by first | omega | (simp only [List.length_append, List.length_cons, List.length_nil]; omega), ?_⟩
    refine o_pcall (args' := [.str x.tx]) rfl (quote_pure (E := E.noPan) hP ht _ (by omega)) (fun m => rfl) ?_
    have hq4 := quoteF_len x.tx
    generalize quoteF x.tx = q4 at *
    simp only [k2, k3, k5, k6, k7, k8, k9, k10, k23, k24, k25, gb0, e0, rows_dn hd, dnRows_len, eid, hgd, Int.toNat_natCast, go_sem, Nat.reduceEqDiff, reduceIte, Int.reduceEq, Int.reduceLT, Int.reduceLE, Nat.reduceAdd, Nat.reduceLT, Nat.reduceLeDiff, Int.reduceToNat, Int.reduceSub, Int.reduceAdd, Int.reduceNeg]
    refine ⟨by first | omega | (simp only [List.length_append, List.length_cons, List.length_nil]; omega), by first | omega | (simp only [List.length_append, List.length_cons, List.length_nil]; omega), ?_⟩
    refine out_append (row := [.str (nodeT y.nm x)]) (out_grow' hO) rfl (by rw [hnt]; simp) ⟨rfl, rfl⟩ (by rw [sRows_len, List.length_take]; omega) ?_
    intro v' L' hO'
    simp only [k2, k3, k5, k6, k8, k9, k10, k23, k24, k25, gb0, e0, hw, go_sem, Nat.reduceEqDiff, reduceIte, Int.reduceEq, Int.reduceLT, Int.reduceLE, Nat.reduceAdd, Nat.reduceLT, Nat.reduceLeDiff, Int.reduceToNat, Int.reduceSub, Int.reduceAdd, Int.reduceNeg]
    refine ⟨m - (i + 1), by omega, i + 1, by omega, rfl, ?_⟩
    rw [htk, sRows_app]; exact ⟨hO', rfl⟩
  rintro e ρ' L ⟨rfl, hO, h3, h5⟩
  generalize hv : ρ' 7 = v at *
  clear h0 h1 ρ
  obtain ⟨g1, _⟩ : L[1]? = some (.cells 9 [s.cells]) ∧ True := by
    obtain ⟨J, rfl, _⟩ := hO; exact ⟨rfl, trivial⟩
  rw [SS.cells] at g1
  have hle := overN_le s.ns
  have b1 := hs.id
  have b2 := hs.df
  have b3 := hs.tx
  have b4 := words_len s.st
  have f1 : floatToIntVal .f64 (fl (overN s.ns)) .i64 = some (overN s.ns : Int) := fl_int _ (by omega)
  have f2 : floatToIntVal .f64 (fl (s.ns.length - overN s.ns)) .i64 = some ((s.ns.length : Int) - overN s.ns) := by rw [fl_int _ (by omega)]; congr 1; omega
  have hee := hs.ev0
  have hef := hs.ev1
  have hht : headT s = headT s := rfl
  conv at hht => rhs; unfold headT
  simp only [h3, h5, g1, go_sem, Nat.reduceEqDiff, reduceIte, Int.reduceEq, Int.reduceLT, Int.reduceLE, Nat.reduceAdd, Nat.reduceLT, Nat.reduceLeDiff, Int.reduceToNat, Int.reduceSub, Int.reduceAdd, Int.reduceNeg]
  refine o_pcall (args' := [.str s.id]) rfl (quote_pure (E := E.noPan) hP ht _ (by omega)) (fun m => rfl) ?_
  have hq1 := quoteF_len s.id
  generalize quoteF s.id = q1 at *
  simp only [h3, h5, g1, x_toInt f1, x_toInt f2, hv, go_sem, Nat.reduceEqDiff, reduceIte, Int.reduceEq, Int.reduceLT, Int.reduceLE, Nat.reduceAdd, Nat.reduceLT, Nat.reduceLeDiff, Int.reduceToNat, Int.reduceSub, Int.reduceAdd, Int.reduceNeg]
  refine ⟨by first | omega | (simp only [List.length_append, List.length_cons, List.length_nil]; omega), by first | omega | (simp only [List.length_append, List.length_cons, List.length_nil]; omega), ?_⟩
  refine o_pcall (args' := [.str s.df]) rfl (quote_pure (E := E.noPan) hP ht _ (by omega)) (fun m => rfl) ?_
  have hq2 := quoteF_len s.df
  generalize quoteF s.df = q2 at *
  simp only [h3, h5, g1, x_toInt f1, x_toInt f2, hv, go_sem, Nat.reduceEqDiff, reduceIte, Int.reduceEq, Int.reduceLT, Int.reduceLE, Nat.reduceAdd, Nat.reduceLT, Nat.reduceLeDiff, Int.reduceToNat, Int.reduceSub, Int.reduceAdd, Int.reduceNeg]
  refine ⟨by first | omega | (simp only [List.length_append, List.length_cons, List.length_nil]; omega), by first | omega | (simp only [List.length_append, List.length_cons, List.length_nil]; omega), ?_⟩
  refine o_pcall (args' := [.int .i64 s.st]) rfl (words_pure (E := E.noPan) hP _) (fun m => rfl) ?_
  simp only [h3, h5, g1, x_toInt f1, x_toInt f2, hv, go_sem, Nat.reduceEqDiff, reduceIte, Int.reduceEq, Int.reduceLT, Int.reduceLE, Nat.reduceAdd, Nat.reduceLT, Nat.reduceLeDiff, Int.reduceToNat, Int.reduceSub, Int.reduceAdd, Int.reduceNeg]
  refine o_pcall (args' := [.str (wordsF s.st)]) rfl (quote_pure (E := E.noPan) hP ht _ (by omega)) (fun m => rfl) ?_
  have hq3 := quoteF_len (wordsF s.st)
  generalize quoteF (wordsF s.st) = q3 at *
  simp only [h3, h5, g1, x_toInt f1, x_toInt f2, hv, go_sem, Nat.reduceEqDiff, reduceIte, Int.reduceEq, Int.reduceLT, Int.reduceLE, Nat.reduceAdd, Nat.reduceLT, Nat.reduceLeDiff, Int.reduceToNat, Int.reduceSub, Int.reduceAdd, Int.reduceNeg]
  refine ⟨by first | omega | (simp only [List.length_append, List.length_cons, List.length_nil]; omega), by first | omega | (simp only [List.length_append, List.length_cons, List.length_nil]; omega), ?_⟩
  refine o_pcall (args' := [.str s.tx]) rfl (quote_pure (E := E.noPan) hP ht _ (by omega)) (fun m => rfl) ?_
  have hq4 := quoteF_len s.tx
  generalize quoteF s.tx = q4 at *
  simp only [h3, h5, g1, x_toInt f1, x_toInt f2, hv, go_sem, Nat.reduceEqDiff, reduceIte, Int.reduceEq, Int.reduceLT, Int.reduceLE, Nat.reduceAdd, Nat.reduceLT, Nat.reduceLeDiff, Int.reduceToNat, Int.reduceSub, Int.reduceAdd, Int.reduceNeg]
  refine ⟨by first | omega | (simp only [List.length_append, List.length_cons, List.length_nil]; omega), by first | omega | (simp only [List.length_append, List.length_cons, List.length_nil]; omega), ?_⟩
  refine o_pcall (args' := [.int .i64 s.ev]) rfl (itoa_pure (E := E.noPan) hP hp _ hee hef) (fun m => rfl) ?_
  have hq5 := itoa_len s.ev hee hef
  generalize Lib.itoa s.ev = q5 at *
  simp only [h3, h5, g1, x_toInt f1, x_toInt f2, hv, go_sem, Nat.reduceEqDiff, reduceIte, Int.reduceEq, Int.reduceLT, Int.reduceLE, Nat.reduceAdd, Nat.reduceLT, Nat.reduceLeDiff, Int.reduceToNat, Int.reduceSub, Int.reduceAdd, Int.reduceNeg]
  refine ⟨by first | omega | (simp only [List.length_append, List.length_cons, List.length_nil]; omega), by first | omega | (simp only [List.length_append, List.length_cons, List.length_nil]; omega), ?_⟩
  refine o_pcall (args' := [.int .i64 (overN s.ns)]) rfl (itoa_pure (E := E.noPan) hP hp _ (by omega) (by omega)) (fun m => rfl) ?_
  have hq6 := itoa_len (overN s.ns : Int) (by omega) (by omega)
  generalize Lib.itoa (overN s.ns : Int) = q6 at *
  simp only [h3, h5, g1, x_toInt f1, x_toInt f2, hv, go_sem, Nat.reduceEqDiff, reduceIte, Int.reduceEq, Int.reduceLT, Int.reduceLE, Nat.reduceAdd, Nat.reduceLT, Nat.reduceLeDiff, Int.reduceToNat, Int.reduceSub, Int.reduceAdd, Int.reduceNeg]
  refine ⟨by first | omega | (simp only [List.length_append, List.length_cons, List.length_nil]; omega), by first | omega | (simp only [List.length_append, List.length_cons, List.length_nil]; omega), ?_⟩
  refine o_pcall (args' := [.int .i64 ((s.ns.length : Int) - overN s.ns)]) rfl (itoa_pure (E := E.noPan) hP hp _ (by omega) (by omega)) (fun m => rfl) ?_
  have hq7 := itoa_len ((s.ns.length : Int) - overN s.ns) (by omega) (by omega)
  generalize Lib.itoa ((s.ns.length : Int) - overN s.ns) = q7 at *
  simp only [h3, h5, g1, x_toInt f1, x_toInt f2, hv, go_sem, Nat.reduceEqDiff, reduceIte, Int.reduceEq, Int.reduceLT, Int.reduceLE, Nat.reduceAdd, Nat.reduceLT, Nat.reduceLeDiff, Int.reduceToNat, Int.reduceSub, Int.reduceAdd, Int.reduceNeg]
  refine ⟨by first | omega | (simp only [List.length_append, List.length_cons, List.length_nil]; omega), by first | omega | (simp only [List.length_append, List.length_cons, List.length_nil]; omega), ?_⟩
  have hjl := join_len 13000000 [44] (nodesL ds s.ns) (nodes_len hd hs.ns)
  have hjn := nodesL_len ds s.ns
  have hj2 : (Lib.join (nodesL ds s.ns) [44]).length ≤ 600000000 := by
    have : (nodesL ds s.ns).length * (13000000 + [(44 : UInt8)].length) ≤ 40 * 13000001 := Nat.mul_le_mul (by omega) (by decide)
    omega
  refine o_pcall_lend (args' := [.isl (sRows (nodesL ds s.ns)), .str [44]]) (mapO_cons (out_conv (n := 11) hO (mapO_same fun r hr => by
    simp only [sRows, List.mem_map] at hr
    obtain ⟨t, _, rfl⟩ := hr; rfl)) rfl) (join_pure (E := E.noPan) hP _ [44] (by omega) (by omega)) rfl (fun m => rfl) ?_
  simp only [h3, h5, g1, x_toInt f1, x_toInt f2, hv, go_sem, Nat.reduceEqDiff, reduceIte, Int.reduceEq, Int.reduceLT, Int.reduceLE, Nat.reduceAdd, Nat.reduceLT, Nat.reduceLeDiff, Int.reduceToNat, Int.reduceSub, Int.reduceAdd, Int.reduceNeg]
  refine ⟨by first | omega | (simp only [List.length_append, List.length_cons, List.length_nil]; omega), by first | omega | (simp only [List.length_append, List.length_cons, List.length_nil]; omega), ?_⟩
  refine (congrArg (fun t => some (IV.str t)) ?_)
  unfold stateF
  rw [hht]
  simp
end
end Go.X.TryzW
end
section
open Go Go.X Go.Proofs
set_option maxRecDepth 100000
set_option maxHeartbeats 4000000
set_option linter.unusedSimpArgs false
set_option linter.unusedVariables false
namespace Go.X.TryzW
/- "tiller/tillerref13.State" params { toList := [37, 41] } results { toList := [Go.ResultVar.tmp 4] } -/
def q17 : XC :=
 (.seq
  (.ops [
    ⟨(some 2), (.box (.t 0)), none⟩,
    ⟨(some 3), (.box (.t 1)), none⟩,
    ⟨(some 4), (.mov (.c (.str []))), none⟩])
  (.seq
   (.ops [
     ⟨(some 11), (.loadN 9 (.t 3)), none⟩,
     ⟨(some 12), (.call (.f 35) [(.t 11)]), none⟩,
     ⟨(some 10), (.mov (.t 12)), none⟩,
     ⟨(some 13), (.ext (.t 10) 0), none⟩,
     ⟨(some 14), (.ext (.t 10) 1), none⟩,
     ⟨(some 5), (.mov (.t 13)), none⟩,
     ⟨(some 6), (.mov (.t 14)), none⟩])
   (.seq
    (.drawE [
      ⟨(some 15), (.fldA 1 (.t 3)), none⟩,
      ⟨(some 16), (.load1 (.t 15)), none⟩,
      ⟨(some 17), (.pcall (.f 8) [(.t 16)]), none⟩,
      ⟨(some 18), (.bin .add (.c (.str [123, 34, 102, 108, 111, 119, 34, 58])) (.t 17)), none⟩,
      ⟨(some 19), (.bin .add (.t 18) (.c (.str [44, 34, 100, 101, 102, 34, 58]))), none⟩,
      ⟨(some 20), (.fldA 0 (.t 3)), none⟩,
      ⟨(some 21), (.load1 (.t 20)), none⟩,
      ⟨(some 22), (.pcall (.f 8) [(.t 21)]), none⟩,
      ⟨(some 23), (.bin .add (.t 19) (.t 22)), none⟩,
      ⟨(some 24), (.bin .add (.t 23) (.c (.str [44, 34, 115, 116, 97, 116, 117, 115, 34, 58]))), none⟩,
      ⟨(some 25), (.fldA 4 (.t 3)), none⟩,
      ⟨(some 26), (.load1 (.t 25)), none⟩,
      ⟨(some 27), (.pcall (.f 36) [(.t 26)]), none⟩,
      ⟨(some 28), (.pcall (.f 8) [(.t 27)]), none⟩,
      ⟨(some 29), (.bin .add (.t 24) (.t 28)), none⟩,
      ⟨(some 30), (.bin .add (.t 29) (.c (.str [44, 34, 116, 101, 120, 116, 34, 58]))), none⟩,
      ⟨(some 31), (.fldA 5 (.t 3)), none⟩,
      ⟨(some 32), (.load1 (.t 31)), none⟩,
      ⟨(some 33), (.pcall (.f 8) [(.t 32)]), none⟩,
      ⟨(some 34), (.bin .add (.t 30) (.t 33)), none⟩,
      ⟨(some 35), (.bin .add (.t 34) (.c (.str [44, 34, 101, 118, 101, 110, 116, 115, 34, 58]))), none⟩,
      ⟨(some 36), (.fldA 8 (.t 3)), none⟩,
      ⟨(some 37), (.load1 (.t 36)), none⟩,
      ⟨(some 38), (.pcall (.f 26) [(.t 37)]), none⟩,
      ⟨(some 39), (.bin .add (.t 35) (.t 38)), none⟩,
      ⟨(some 40), (.bin .add (.t 39) (.c (.str [44, 34, 111, 118, 101, 114, 34, 58]))), none⟩,
      ⟨(some 41), (.mov (.t 5)), none⟩,
      ⟨(some 42), (.pcall (.f 26) [(.t 41)]), none⟩,
      ⟨(some 43), (.bin .add (.t 40) (.t 42)), none⟩,
      ⟨(some 44), (.bin .add (.t 43) (.c (.str [44, 34, 108, 101, 102, 116, 34, 58]))), none⟩,
      ⟨(some 45), (.mov (.t 6)), none⟩,
      ⟨(some 46), (.pcall (.f 26) [(.t 45)]), none⟩,
      ⟨(some 47), (.bin .add (.t 44) (.t 46)), none⟩,
      ⟨(some 48), (.bin .add (.t 47) (.c (.str [44, 34, 110, 111, 100, 101, 115, 34, 58, 91]))), none⟩,
      ⟨(some 7), (.mov (.t 48)), none⟩])
    (.seq
     (.seq
      (.ops [
        ⟨(some 8), (.mov (.c (.int .i64 0))), none⟩])
      (.block 0
       (.loop
        (.seq
         (.seq
          (.ops [
            ⟨(some 49), (.mov (.t 8)), none⟩,
            ⟨(some 50), (.fldA 6 (.t 3)), none⟩,
            ⟨(some 51), (.load1 (.t 50)), none⟩,
            ⟨(some 52), (.len (.t 51)), none⟩,
            ⟨(some 53), (.bin .lss (.t 49) (.t 52)), none⟩,
            ⟨(some 54), (.mov (.t 53)), none⟩,
            ⟨(some 55), (.mov (.t 8)), (some (54, true))⟩,
            ⟨(some 56), (.fldA 1 (.t 2)), (some (54, true))⟩,
            ⟨(some 57), (.load1 (.t 56)), (some (54, true))⟩,
            ⟨(some 58), (.len (.t 57)), (some (54, true))⟩,
            ⟨(some 59), (.bin .lss (.t 55) (.t 58)), (some (54, true))⟩,
            ⟨(some 60), (.pick (.t 54) (.t 59) (.c (.bool false))), none⟩])
          (.cond (.t 60)
           .skip
           (.exit 0)))
         (.seq
          (.block 1
           (.seq
            (.seq
             (.ops [
               ⟨(some 63), (.mov (.t 8)), none⟩,
               ⟨(some 64), (.bin .gtr (.t 63) (.c (.int .i64 0))), none⟩])
             (.cond (.t 64)
              (.ops [
                ⟨(some 65), (.mov (.t 7)), none⟩,
                ⟨(some 66), (.bin .add (.t 65) (.c (.str [44]))), none⟩,
                ⟨(some 7), (.mov (.t 66)), none⟩])
              .skip))
            (.seq
             (.ops [
               ⟨(some 67), (.fldA 6 (.t 3)), none⟩,
               ⟨(some 68), (.load1 (.t 67)), none⟩,
               ⟨(some 69), (.mov (.t 8)), none⟩,
               ⟨(some 70), (.idxS 3 (.t 68) (.t 69)), none⟩,
               ⟨(some 71), (.loadN 3 (.t 70)), none⟩,
               ⟨(some 9), (.alloc [(.int .i64 0), (.int .i64 0), (.str [])]), none⟩,
               ⟨none, (.store 3 (.t 9) (.t 71)), none⟩])
             (.drawE [
               ⟨(some 72), (.mov (.t 7)), none⟩,
               ⟨(some 73), (.bin .add (.t 72) (.c (.str [123, 34, 110, 97, 109, 101, 34, 58]))), none⟩,
               ⟨(some 74), (.fldA 1 (.t 2)), none⟩,
               ⟨(some 75), (.load1 (.t 74)), none⟩,
               ⟨(some 76), (.mov (.t 8)), none⟩,
               ⟨(some 77), (.idxS 7 (.t 75) (.t 76)), none⟩,
               ⟨(some 78), (.fldA 0 (.t 77)), none⟩,
               ⟨(some 79), (.load1 (.t 78)), none⟩,
               ⟨(some 80), (.pcall (.f 8) [(.t 79)]), none⟩,
               ⟨(some 81), (.bin .add (.t 73) (.t 80)), none⟩,
               ⟨(some 82), (.bin .add (.t 81) (.c (.str [44, 34, 115, 116, 97, 116, 117, 115, 34, 58]))), none⟩,
               ⟨(some 83), (.fldA 0 (.t 9)), none⟩,
               ⟨(some 84), (.load1 (.t 83)), none⟩,
               ⟨(some 85), (.pcall (.f 37) [(.t 84)]), none⟩,
               ⟨(some 86), (.pcall (.f 8) [(.t 85)]), none⟩,
               ⟨(some 87), (.bin .add (.t 82) (.t 86)), none⟩,
               ⟨(some 88), (.bin .add (.t 87) (.c (.str [44, 34, 116, 114, 121, 34, 58]))), none⟩,
               ⟨(some 89), (.fldA 1 (.t 9)), none⟩,
               ⟨(some 90), (.load1 (.t 89)), none⟩,
               ⟨(some 91), (.pcall (.f 26) [(.t 90)]), none⟩,
               ⟨(some 92), (.bin .add (.t 88) (.t 91)), none⟩,
               ⟨(some 93), (.bin .add (.t 92) (.c (.str [44, 34, 116, 101, 120, 116, 34, 58]))), none⟩,
               ⟨(some 94), (.fldA 2 (.t 9)), none⟩,
               ⟨(some 95), (.load1 (.t 94)), none⟩,
               ⟨(some 96), (.pcall (.f 8) [(.t 95)]), none⟩,
               ⟨(some 97), (.bin .add (.t 93) (.t 96)), none⟩,
               ⟨(some 98), (.bin .add (.t 97) (.c (.str [125]))), none⟩,
               ⟨(some 7), (.mov (.t 98)), none⟩]))))
          (.ops [
            ⟨(some 61), (.mov (.t 8)), none⟩,
            ⟨(some 62), (.bin .add (.t 61) (.c (.int .i64 1))), none⟩,
            ⟨(some 8), (.mov (.t 62)), none⟩]))))))
     (.seq
      (.ops [
        ⟨(some 99), (.mov (.t 7)), none⟩,
        ⟨(some 100), (.bin .add (.t 99) (.c (.str [93, 125]))), none⟩,
        ⟨(some 4), (.mov (.t 100)), none⟩])
      .ret)))))

section
variable {E : Env} {ρ : Rho} {L : List Blk} {K : IV → List Blk → Prop}
theorem join_snoc (sep x : List UInt8) : ∀ l : List (List UInt8), Lib.join (l ++ [x]) sep = Lib.join l sep ++ (if l = [] then [] else sep) ++ x
  | [] => by simp [Lib.join]
  | [a] => by simp [Lib.join, List.intercalate, List.intersperse]
  | a :: b :: r => by
    have e : ∀ t : List (List UInt8), ∀ y, Lib.join (a :: y :: t) sep = a ++ sep ++ Lib.join (y :: t) sep := fun t y => by simp [Lib.join, List.intercalate, List.intersperse]
    have h := join_snoc sep x (b :: r)
    rw [List.cons_append, List.cons_append, e, ← List.cons_append, h, e]
    simp
theorem rstate_pure (hP : E.P = Tryz.prog)
    (nm : List UInt8) (ds : List DN) (s : SS) (hd : DnOk ds) (hs : s.Ok) (hdn : ds.length ≤ 40) : XPure E 17 [.agg [.str nm, .isl (dnRows ds)], .agg s.cells] (.str (stateF ds s)) := by
  refine xpure1 (n := Tryz.f17.ntmps) (c := q17) (t := 4) (by rw [hP]; rfl) (by rw [hP]; kernel_rfl) (by decide) (Nat.le_of_ble_eq_true rfl) ?_
  generalize hρ : entry _ = ρ
  have h0 : ρ 0 = .agg [.str nm, .isl (dnRows ds)] := by rw [← hρ]; rfl
  have h1 : ρ 1 = .agg s.cells := by rw [← hρ]; rfl
  clear hρ
  unfold q17
  have hn := hs.n
  simp only [h0, h1, SS.cells, go_sem, Nat.reduceEqDiff, reduceIte, Int.reduceEq, Int.reduceLT, Int.reduceLE, Nat.reduceAdd, Nat.reduceLT, Nat.reduceLeDiff, Int.reduceToNat, Int.reduceSub, Int.reduceAdd, Int.reduceNeg]
  refine xcall_pure (args' := [.agg s.cells]) rfl (rcount_pure (E := E.noPan) hP s hn) rfl ?_
  obtain ⟨m, hm⟩ : ∃ m : Nat, m = min ds.length s.ns.length := ⟨_, rfl⟩
  have hok := headT_len s hs
  have hle := overN_le s.ns
  have b1 := hs.id
  have b2 := hs.df
  have b3 := hs.tx
  have b4 := words_len s.st
  have hee := hs.ev0
  have hef := hs.ev1
  have hht : headT s = headT s := rfl
  conv at hht => rhs; unfold headT
  simp only [h0, h1, go_sem, Nat.reduceEqDiff, reduceIte, Int.reduceEq, Int.reduceLT, Int.reduceLE, Nat.reduceAdd, Nat.reduceLT, Nat.reduceLeDiff, Int.reduceToNat, Int.reduceSub, Int.reduceAdd, Int.reduceNeg]
  refine o_pcall (args' := [.str s.id]) rfl (rquote_pure (E := E.noPan) hP _ (by omega)) (fun m => rfl) ?_
  have hq1 := quoteF_len s.id
  generalize quoteF s.id = q1 at *
  simp only [h0, h1, go_sem, Nat.reduceEqDiff, reduceIte, Int.reduceEq, Int.reduceLT, Int.reduceLE, Nat.reduceAdd, Nat.reduceLT, Nat.reduceLeDiff, Int.reduceToNat, Int.reduceSub, Int.reduceAdd, Int.reduceNeg]
  refine ⟨by first | omega | (simp only [List.length_append, List.length_cons, List.length_nil]; omega), by first | omega | (simp only [List.length_append, List.length_cons, List.length_nil]; omega), ?_⟩
  refine o_pcall (args' := [.str s.df]) rfl (rquote_pure (E := E.noPan) hP _ (by omega)) (fun m => rfl) ?_
  have hq2 := quoteF_len s.df
  generalize quoteF s.df = q2 at *
  simp only [h0, h1, go_sem, Nat.reduceEqDiff, reduceIte, Int.reduceEq, Int.reduceLT, Int.reduceLE, Nat.reduceAdd, Nat.reduceLT, Nat.reduceLeDiff, Int.reduceToNat, Int.reduceSub, Int.reduceAdd, Int.reduceNeg]
  refine ⟨by first | omega | (simp only [List.length_append, List.length_cons, List.length_nil]; omega), by first | omega | (simp only [List.length_append, List.length_cons, List.length_nil]; omega), ?_⟩
  refine o_pcall (args' := [.int .i64 s.st]) rfl (rwords_pure (E := E.noPan) hP _) (fun m => rfl) ?_
  simp only [h0, h1, go_sem, Nat.reduceEqDiff, reduceIte, Int.reduceEq, Int.reduceLT, Int.reduceLE, Nat.reduceAdd, Nat.reduceLT, Nat.reduceLeDiff, Int.reduceToNat, Int.reduceSub, Int.reduceAdd, Int.reduceNeg]
  refine o_pcall (args' := [.str (wordsF s.st)]) rfl (rquote_pure (E := E.noPan) hP _ (by omega)) (fun m => rfl) ?_
  have hq3 := quoteF_len (wordsF s.st)
  generalize quoteF (wordsF s.st) = q3 at *
  simp only [h0, h1, go_sem, Nat.reduceEqDiff, reduceIte, Int.reduceEq, Int.reduceLT, Int.reduceLE, Nat.reduceAdd, Nat.reduceLT, Nat.reduceLeDiff, Int.reduceToNat, Int.reduceSub, Int.reduceAdd, Int.reduceNeg]
  refine ⟨by first | omega | (simp only [List.length_append, List.length_cons, List.length_nil]; omega), by first | omega | (simp only [List.length_append, List.length_cons, List.length_nil]; omega), ?_⟩
  refine o_pcall (args' := [.str s.tx]) rfl (rquote_pure (E := E.noPan) hP _ (by omega)) (fun m => rfl) ?_
  have hq4 := quoteF_len s.tx
  generalize quoteF s.tx = q4 at *
  simp only [h0, h1, go_sem, Nat.reduceEqDiff, reduceIte, Int.reduceEq, Int.reduceLT, Int.reduceLE, Nat.reduceAdd, Nat.reduceLT, Nat.reduceLeDiff, Int.reduceToNat, Int.reduceSub, Int.reduceAdd, Int.reduceNeg]
  refine ⟨by first | omega | (simp only [List.length_append, List.length_cons, List.length_nil]; omega), by first | omega | (simp only [List.length_append, List.length_cons, List.length_nil]; omega), ?_⟩
  refine o_pcall (args' := [.int .i64 s.ev]) rfl (digits_any (E := E.noPan) hP _ hee hef) (fun m => rfl) ?_
  have hq5 := itoa_len s.ev hee hef
  generalize Lib.itoa s.ev = q5 at *
  simp only [h0, h1, go_sem, Nat.reduceEqDiff, reduceIte, Int.reduceEq, Int.reduceLT, Int.reduceLE, Nat.reduceAdd, Nat.reduceLT, Nat.reduceLeDiff, Int.reduceToNat, Int.reduceSub, Int.reduceAdd, Int.reduceNeg]
  refine ⟨by first | omega | (simp only [List.length_append, List.length_cons, List.length_nil]; omega), by first | omega | (simp only [List.length_append, List.length_cons, List.length_nil]; omega), ?_⟩
  refine o_pcall (args' := [.int .i64 (overN s.ns)]) rfl (digits_any (E := E.noPan) hP _ (by omega) (by omega)) (fun m => rfl) ?_
  have hq6 := itoa_len (overN s.ns : Int) (by omega) (by omega)
  generalize Lib.itoa (overN s.ns : Int) = q6 at *
  simp only [h0, h1, go_sem, Nat.reduceEqDiff, reduceIte, Int.reduceEq, Int.reduceLT, Int.reduceLE, Nat.reduceAdd, Nat.reduceLT, Nat.reduceLeDiff, Int.reduceToNat, Int.reduceSub, Int.reduceAdd, Int.reduceNeg]
  refine ⟨by first | omega | (simp only [List.length_append, List.length_cons, List.length_nil]; omega), by first | omega | (simp only [List.length_append, List.length_cons, List.length_nil]; omega), ?_⟩
  refine o_pcall (args' := [.int .i64 ((s.ns.length : Int) - overN s.ns)]) rfl (digits_any (E := E.noPan) hP _ (by omega) (by omega)) (fun m => rfl) ?_
  have hq7 := itoa_len ((s.ns.length : Int) - overN s.ns) (by omega) (by omega)
  generalize Lib.itoa ((s.ns.length : Int) - overN s.ns) = q7 at *
  simp only [h0, h1, go_sem, Nat.reduceEqDiff, reduceIte, Int.reduceEq, Int.reduceLT, Int.reduceLE, Nat.reduceAdd, Nat.reduceLT, Nat.reduceLeDiff, Int.reduceToNat, Int.reduceSub, Int.reduceAdd, Int.reduceNeg]
  refine ⟨by first | omega | (simp only [List.length_append, List.length_cons, List.length_nil]; omega), by first | omega | (simp only [List.length_append, List.length_cons, List.length_nil]; omega), ?_⟩
  have hcat : ∀ t, t = headT s → True := fun _ _ => trivial
  refine xrun_cut (fun e ρ' L' => e = .exit 0 ∧ ρ' 7 = .str (headT s ++ Lib.join (nodesL ds s.ns) [44])) ?_ ?_
  · refine s_loop (fun n ρ L => ∃ i : Nat, i ≤ m ∧ n = m - i ∧ L[0]? = some (.cells 2 [[.str nm, .isl (dnRows ds)]]) ∧ L[1]? = some (.cells 9 [s.cells]) ∧ ρ 2 = .ptr 0 0 0 ∧ ρ 3 = .ptr 1 0 0 ∧
        ρ 7 = .str (headT s ++ Lib.join ((nodesL ds s.ns).take i) [44]) ∧ ρ 8 = .int .i64 i) (n := m)
      ⟨0, Nat.zero_le _, rfl, by rfl, by rfl, by simp only [go_sem, Nat.reduceEqDiff, reduceIte, Int.reduceEq, Int.reduceLT, Int.reduceLE, Nat.reduceAdd, Nat.reduceLT, Nat.reduceLeDiff, Int.reduceToNat, Int.reduceSub, Int.reduceAdd, Int.reduceNeg], by simp only [go_sem, Nat.reduceEqDiff, reduceIte, Int.reduceEq, Int.reduceLT, Int.reduceLE, Nat.reduceAdd, Nat.reduceLT, Nat.reduceLeDiff, Int.reduceToNat, Int.reduceSub, Int.reduceAdd, Int.reduceNeg], by simp only [go_sem, Nat.reduceEqDiff, reduceIte, Int.reduceEq, Int.reduceLT, Int.reduceLE, Nat.reduceAdd, Nat.reduceLT, Nat.reduceLeDiff, Int.reduceToNat, Int.reduceSub, Int.reduceAdd, Int.reduceNeg]; rw [hht]; simp [Lib.join], by simp only [go_sem, Nat.reduceEqDiff, reduceIte, Int.reduceEq, Int.reduceLT, Int.reduceLE, Nat.reduceAdd, Nat.reduceLT, Nat.reduceLeDiff, Int.reduceToNat, Int.reduceSub, Int.reduceAdd, Int.reduceNeg]; try rfl⟩ ?_
    clear h0 h1 ρ
    rintro n ρ L ⟨i, hi, rfl, g0, g1, k2, k3, k7, k8⟩
    rw [SS.cells] at g1
    by_cases him : i < m
    case neg =>
      have hte : (nodesL ds s.ns).take i = nodesL ds s.ns := List.take_of_length_le (by rw [nodesL_len]; omega)
      rw [hte] at k7
      by_cases c1 : i < s.ns.length
      · have e1 : ((i : Int) < (s.ns.length : Int)) = True := eq_true (by omega)
        have e2 : ((i : Int) < (ds.length : Int)) = False := eq_false (by omega)
        simp only [k2, k3, k7, k8, g0, g1, e1, e2, nsRows_len, dnRows_len, decide_true, decide_false, go_sem, Nat.reduceEqDiff, reduceIte, Int.reduceEq, Int.reduceLT, Int.reduceLE, Nat.reduceAdd, Nat.reduceLT, Nat.reduceLeDiff, Int.reduceToNat, Int.reduceSub, Int.reduceAdd, Int.reduceNeg]
      · have e1 : ((i : Int) < (s.ns.length : Int)) = False := eq_false (by omega)
        simp only [k2, k3, k7, k8, g0, g1, e1, nsRows_len, dnRows_len, decide_true, decide_false, go_sem, Nat.reduceEqDiff, reduceIte, Int.reduceEq, Int.reduceLT, Int.reduceLE, Nat.reduceAdd, Nat.reduceLT, Nat.reduceLeDiff, Int.reduceToNat, Int.reduceSub, Int.reduceAdd, Int.reduceNeg]
    have e1 : ((i : Int) < (s.ns.length : Int)) = True := eq_true (by omega)
    have e2 : ((i : Int) < (ds.length : Int)) = True := eq_true (by omega)
    have e0 : ((0 : Int) ≤ (i : Int)) = True := eq_true (by omega)
    have e1' : (i < s.ns.length) = True := eq_true (by omega)
    have eid : (i < ds.length) = True := eq_true (by omega)
    have hg := nsRows_get (l := s.ns) (i := i) (by omega)
    have hgd := dnRows_get (l := ds) (i := i) (by omega)
    have hw : IntKind.i64.wrap ((i : Int) + 1) = ((i + 1 : Nat) : Int) := by rw [wrap64 (by omega) (by omega)]; rfl
    have htk := nodesL_take ds s.ns i (by omega) (by omega)
    have hx := hs.ns _ (getD_mem' (d := ⟨0, 0, []⟩) (show i < s.ns.length by omega))
    have hdx := hd _ (getD_mem' (d := ⟨[], []⟩) (show i < ds.length by omega))
    generalize s.ns.getD i ⟨0, 0, []⟩ = x at *
    generalize ds.getD i ⟨[], []⟩ = y at *
    have hjl := join_len 13000000 [44] ((nodesL ds s.ns).take i) (fun z hz => nodes_len hd hs.ns z (List.mem_of_mem_take hz))
    have hj2 : (Lib.join ((nodesL ds s.ns).take i) [44]).length ≤ 600000000 := by
      have : ((nodesL ds s.ns).take i).length * (13000000 + [(44 : UInt8)].length) ≤ 40 * 13000001 := Nat.mul_le_mul (by rw [List.length_take, nodesL_len]; omega) (by decide)
      omega
    have hsn := join_snoc [44] (nodeT y.nm x) ((nodesL ds s.ns).take i)
    rw [← htk] at hsn
    have hte : ((nodesL ds s.ns).take i = []) = (i = 0) := propext ⟨fun h => by have := congrArg List.length h; rw [List.length_take, nodesL_len, List.length_nil] at this; omega, fun h => by subst h; rfl⟩
    simp only [hte] at hsn
    generalize Lib.join ((nodesL ds s.ns).take i) [44] = J at *
    clear hht
    generalize headT s = H at *
    have gb0 := get_app (b := Blk.cells 3 [[IV.int .i64 x.st, IV.int .i64 x.tr, IV.str x.tx]]) g0
    have gb1 := get_app (b := Blk.cells 3 [[IV.int .i64 x.st, IV.int .i64 x.tr, IV.str x.tx]]) g1
    simp only [k2, k3, k7, k8, g0, g1, e0, e1, e2, nsRows_len, dnRows_len, decide_true, go_sem, Nat.reduceEqDiff, reduceIte, Int.reduceEq, Int.reduceLT, Int.reduceLE, Nat.reduceAdd, Nat.reduceLT, Nat.reduceLeDiff, Int.reduceToNat, Int.reduceSub, Int.reduceAdd, Int.reduceNeg]
    refine xrun_cut (fun e ρ' L' => e = .normal ∧ L' = L ∧ ρ' 2 = .ptr 0 0 0 ∧ ρ' 3 = .ptr 1 0 0 ∧ ρ' 8 = .int .i64 i ∧ ρ' 7 = .str (H ++ J ++ (if i = 0 then [] else [44]))) ?_ ?_
    · by_cases hi0 : i = 0
      · have e3 : ((0 : Int) < (i : Int)) = False := eq_false (by omega)
        simp only [k2, k3, k7, k8, e3, decide_false, go_sem, Nat.reduceEqDiff, reduceIte, Int.reduceEq, Int.reduceLT, Int.reduceLE, Nat.reduceAdd, Nat.reduceLT, Nat.reduceLeDiff, Int.reduceToNat, Int.reduceSub, Int.reduceAdd, Int.reduceNeg]
        rw [if_pos hi0, List.append_nil]
      · have e3 : ((0 : Int) < (i : Int)) = True := eq_true (by omega)
        simp only [k2, k3, k7, k8, e3, decide_true, go_sem, Nat.reduceEqDiff, reduceIte, Int.reduceEq, Int.reduceLT, Int.reduceLE, Nat.reduceAdd, Nat.reduceLT, Nat.reduceLeDiff, Int.reduceToNat, Int.reduceSub, Int.reduceAdd, Int.reduceNeg]
        exact ⟨by first | omega | (simp only [List.length_append, List.length_cons, List.length_nil]; omega), by rw [if_neg hi0]⟩
    clear k2 k3 k7 k8 ρ
    rintro e ρ L' ⟨rfl, rfl, k2, k3, k8, k7⟩
    have hsl0 : (if i = 0 then [] else [(44 : UInt8)]).length ≤ 1 := by split <;> simp
    generalize (if i = 0 then [] else [(44 : UInt8)]) = sp at *
    have hxl := hx.1
    have hyl := hdx.2
    have hsl := stand_len x.st
    have hnt : nodeT y.nm x = nodeT y.nm x := rfl
    conv at hnt => rhs; unfold nodeT
    simp only [k2, k3, k7, k8, g0, g1, gb0, gb1, e0, e1, e2, e1', rows_ns, rows_dn hd, nsRows_len, dnRows_len, eid, hg, hgd, hw, Int.toNat_natCast, go_sem, Nat.reduceEqDiff, reduceIte, Int.reduceEq, Int.reduceLT, Int.reduceLE, Nat.reduceAdd, Nat.reduceLT, Nat.reduceLeDiff, Int.reduceToNat, Int.reduceSub, Int.reduceAdd, Int.reduceNeg]
    refine ⟨by first | omega | (simp only [List.length_append, List.length_cons, List.length_nil]; omega), by omega, ?_⟩
    refine o_pcall (args' := [.str y.nm]) rfl (rquote_pure (E := E.noPan) hP _ (by omega)) (fun m => rfl) ?_
    have hr1 := quoteF_len y.nm
    generalize quoteF y.nm = r1 at *
    simp only [k2, k3, k7, k8, g0, g1, gb0, gb1, e0, e1, e2, e1', rows_ns, rows_dn hd, nsRows_len, dnRows_len, eid, hg, hgd, hw, Int.toNat_natCast, go_sem, Nat.reduceEqDiff, reduceIte, Int.reduceEq, Int.reduceLT, Int.reduceLE, Nat.reduceAdd, Nat.reduceLT, Nat.reduceLeDiff, Int.reduceToNat, Int.reduceSub, Int.reduceAdd, Int.reduceNeg]
    refine ⟨by first | omega | (simp only [List.length_append, List.length_cons, List.length_nil]; omega), by first | omega | (simp only [List.length_append, List.length_cons, List.length_nil]; omega), ?_⟩
    refine o_pcall (args' := [.int .i64 x.st]) rfl (rstand_pure (E := E.noPan) hP _) (fun m => rfl) ?_
    simp only [k2, k3, k7, k8, g0, g1, gb0, gb1, e0, e1, e2, e1', rows_ns, rows_dn hd, nsRows_len, dnRows_len, eid, hg, hgd, hw, Int.toNat_natCast, go_sem, Nat.reduceEqDiff, reduceIte, Int.reduceEq, Int.reduceLT, Int.reduceLE, Nat.reduceAdd, Nat.reduceLT, Nat.reduceLeDiff, Int.reduceToNat, Int.reduceSub, Int.reduceAdd, Int.reduceNeg]
    refine o_pcall (args' := [.str (standF x.st)]) rfl (rquote_pure (E := E.noPan) hP _ (by omega)) (fun m => rfl) ?_
    have hr2 := quoteF_len (standF x.st)
    generalize quoteF (standF x.st) = r2 at *
    simp only [k2, k3, k7, k8, g0, g1, gb0, gb1, e0, e1, e2, e1', rows_ns, rows_dn hd, nsRows_len, dnRows_len, eid, hg, hgd, hw, Int.toNat_natCast, go_sem, Nat.reduceEqDiff, reduceIte, Int.reduceEq, Int.reduceLT, Int.reduceLE, Nat.reduceAdd, Nat.reduceLT, Nat.reduceLeDiff, Int.reduceToNat, Int.reduceSub, Int.reduceAdd, Int.reduceNeg]
    refine ⟨by first | omega | (simp only [List.length_append, List.length_cons, List.length_nil]; omega), by first | omega | (simp only [List.length_append, List.length_cons, List.length_nil]; omega), ?_⟩
    refine o_pcall (args' := [.int .i64 x.tr]) rfl (digits_any (E := E.noPan) hP _ hx.2.1 hx.2.2) (fun m => rfl) ?_
    have hr3 := itoa_len x.tr hx.2.1 hx.2.2
    generalize Lib.itoa x.tr = r3 at *
    simp only [k2, k3, k7, k8, g0, g1, gb0, gb1, e0, e1, e2, e1', rows_ns, rows_dn hd, nsRows_len, dnRows_len, eid, hg, hgd, hw, Int.toNat_natCast, go_sem, Nat.reduceEqDiff, reduceIte, Int.reduceEq, Int.reduceLT, Int.reduceLE, Nat.reduceAdd, Nat.reduceLT, Nat.reduceLeDiff, Int.reduceToNat, Int.reduceSub, Int.reduceAdd, Int.reduceNeg]
    refine ⟨by first | omega | (simp only [List.length_append, List.length_cons, List.length_nil]; omega), by first | omega | (simp only [List.length_append, List.length_cons, List.length_nil]; omega), ?_⟩
    refine o_pcall (args' := [.str x.tx]) rfl (rquote_pure (E := E.noPan) hP _ (by omega)) (fun m => rfl) ?_
    have hr4 := quoteF_len x.tx
    generalize quoteF x.tx = r4 at *
    simp only [k2, k3, k7, k8, g0, g1, gb0, gb1, e0, e1, e2, e1', rows_ns, rows_dn hd, nsRows_len, dnRows_len, eid, hg, hgd, hw, Int.toNat_natCast, go_sem, Nat.reduceEqDiff, reduceIte, Int.reduceEq, Int.reduceLT, Int.reduceLE, Nat.reduceAdd, Nat.reduceLT, Nat.reduceLeDiff, Int.reduceToNat, Int.reduceSub, Int.reduceAdd, Int.reduceNeg]
    refine ⟨by first | omega | (simp only [List.length_append, List.length_cons, List.length_nil]; omega), by first | omega | (simp only [List.length_append, List.length_cons, List.length_nil]; omega), ?_⟩
    refine ⟨m - (i + 1), by omega, i + 1, by omega, rfl, rfl, ?_, rfl⟩
    rw [hsn, hnt]
    simp
  rintro e ρ' L ⟨rfl, h7⟩
  have hjl := join_len 13000000 [44] (nodesL ds s.ns) (nodes_len hd hs.ns)
  have hjn := nodesL_len ds s.ns
  have hj2 : (Lib.join (nodesL ds s.ns) [44]).length ≤ 600000000 := by
    have : (nodesL ds s.ns).length * (13000000 + [(44 : UInt8)].length) ≤ 40 * 13000001 := Nat.mul_le_mul (by omega) (by decide)
    omega
  simp only [h7, go_sem, Nat.reduceEqDiff, reduceIte, Int.reduceEq, Int.reduceLT, Int.reduceLE, Nat.reduceAdd, Nat.reduceLT, Nat.reduceLeDiff, Int.reduceToNat, Int.reduceSub, Int.reduceAdd, Int.reduceNeg]
  exact ⟨by first | omega | (simp only [List.length_append, List.length_cons, List.length_nil]; omega), rfl⟩
end
end Go.X.TryzW
end
section
open Go Go.X Go.Proofs
set_option maxRecDepth 100000
set_option maxHeartbeats 4000000
set_option linter.unusedSimpArgs false
set_option linter.unusedVariables false
namespace Go.X.TryzW
/- "tiller/tillerlaw13.FrontState" params { toList := [37, 41] } results { toList := [Go.ResultVar.tmp 4] } -/
def q4 : XC :=
 (.seq
  (.ops [
    ⟨(some 2), (.box (.t 0)), none⟩,
    ⟨(some 3), (.box (.t 1)), none⟩,
    ⟨(some 4), (.mov (.c (.bool false))), none⟩])
  (.seq
   (.seq
    (.ops [
      ⟨(some 5), (.fldA 1 (.t 2)), none⟩,
      ⟨(some 6), (.load1 (.t 5)), none⟩,
      ⟨(some 7), (.len (.t 6)), none⟩,
      ⟨(some 8), (.bin .gtr (.t 7) (.c (.int .i64 40))), none⟩])
    (.cond (.t 8)
     (.ops [
       ⟨(some 9), (.fldA 1 (.t 2)), none⟩,
       ⟨(some 10), (.load1 (.t 9)), none⟩,
       ⟨(some 11), (.slice 7 (.t 10) none (some (.c (.int .i64 40)))), none⟩,
       ⟨(some 12), (.fldA 1 (.t 2)), none⟩,
       ⟨none, (.store 1 (.t 12) (.t 11)), none⟩])
     .skip))
   (.seq
    (.seq
     (.ops [
       ⟨(some 13), (.fldA 6 (.t 3)), none⟩,
       ⟨(some 14), (.load1 (.t 13)), none⟩,
       ⟨(some 15), (.len (.t 14)), none⟩,
       ⟨(some 16), (.bin .gtr (.t 15) (.c (.int .i64 40))), none⟩])
     (.cond (.t 16)
      (.ops [
        ⟨(some 17), (.fldA 6 (.t 3)), none⟩,
        ⟨(some 18), (.load1 (.t 17)), none⟩,
        ⟨(some 19), (.slice 3 (.t 18) none (some (.c (.int .i64 40)))), none⟩,
        ⟨(some 20), (.fldA 6 (.t 3)), none⟩,
        ⟨none, (.store 1 (.t 20) (.t 19)), none⟩])
      .skip))
    (.seq
     (.drawE [
       ⟨(some 21), (.fldA 5 (.t 3)), none⟩,
       ⟨(some 22), (.load1 (.t 21)), none⟩,
       ⟨(some 23), (.pcall (.f 5) [(.t 22)]), none⟩,
       ⟨(some 24), (.fldA 1 (.t 3)), none⟩,
       ⟨(some 25), (.load1 (.t 24)), none⟩,
       ⟨(some 26), (.pcall (.f 5) [(.t 25)]), none⟩,
       ⟨(some 27), (.fldA 5 (.t 3)), none⟩,
       ⟨none, (.store 1 (.t 27) (.t 23)), none⟩,
       ⟨(some 28), (.fldA 1 (.t 3)), none⟩,
       ⟨none, (.store 1 (.t 28) (.t 26)), none⟩])
     (.seq
      (.drawE [
        ⟨(some 29), (.loadN 2 (.t 2)), none⟩,
        ⟨(some 30), (.loadN 9 (.t 3)), none⟩,
        ⟨(some 31), (.pcall (.f 16) [(.t 29), (.t 30)]), none⟩,
        ⟨(some 32), (.loadN 2 (.t 2)), none⟩,
        ⟨(some 33), (.loadN 9 (.t 3)), none⟩,
        ⟨(some 34), (.pcall (.f 17) [(.t 32), (.t 33)]), none⟩,
        ⟨(some 35), (.bin .eql (.t 31) (.t 34)), none⟩,
        ⟨(some 36), (.mov (.t 35)), none⟩,
        ⟨(some 37), (.pcall (.f 15) []), (some (36, true))⟩,
        ⟨(some 38), (.pick (.t 36) (.t 37) (.c (.bool false))), none⟩,
        ⟨(some 4), (.mov (.t 38)), none⟩])
      .ret)))))

section
variable {E : Env} {ρ : Rho} {L : List Blk} {K : IV → List Blk → Prop}
theorem dnRows_take (l : List DN) (n : Nat) : (dnRows l).take n = dnRows (l.take n) := (List.map_take ..).symm
theorem nsRows_take (l : List NS) (n : Nat) : (nsRows l).take n = nsRows (l.take n) := (List.map_take ..).symm
theorem short_len (s : List UInt8) : (shortF s).length ≤ 1500 := by unfold shortF; rw [List.length_take]; omega
def cutS (s : SS) : SS := { s with ns := s.ns.take 40, tx := shortF s.tx, id := shortF s.id }
theorem front_state_pure (hP : E.P = Tryz.prog) {m : Int} (hm : E.gl 2 = some [.int .i64 m]) (ht : ∀ w, E.G w → Lib.Utf8Tabs 0 1 w) (hp : ∀ w, E.G w → Lib.TabIs Tryz.prog w "internal/strconv.uint64pow10" .u64 Lib.pow10Tab)
    (nm : List UInt8) (ds : List DN) (s : SS) (hd : DnOk ds) (hs : NsOk s.ns) (hdf : s.df.length ≤ 1048576) (hev0 : -9223372036854775808 ≤ s.ev) (hev1 : s.ev ≤ 9223372036854775807) : XPure E 4 [.agg [.str nm, .isl (dnRows ds)], .agg s.cells] (.bool true) := by
  refine xpure1 (n := Tryz.f4.ntmps) (c := q4) (t := 4) (by rw [hP]; rfl) (by rw [hP]; kernel_rfl) (by decide) (Nat.le_of_ble_eq_true rfl) ?_
  generalize hρ : entry _ = ρ
  have h0 : ρ 0 = .agg [.str nm, .isl (dnRows ds)] := by rw [← hρ]; rfl
  have h1 : ρ 1 = .agg s.cells := by rw [← hρ]; rfl
  clear hρ
  unfold q4
  have e0 : ((0 : Int) ≤ 40) = True := eq_true (by decide)
  have hok : (cutS s).Ok := ⟨fun x hx => hs x (List.mem_of_mem_take hx), by show (s.ns.take 40).length ≤ 40; rw [List.length_take]; omega, hdf, by have := short_len s.id; show (shortF s.id).length ≤ _; omega, by have := short_len s.tx; show (shortF s.tx).length ≤ _; omega, hev0, hev1⟩
  have hdk : DnOk (ds.take 40) := fun x hx => hd x (List.mem_of_mem_take hx)
  simp only [h0, h1, SS.cells, dnRows_len, go_sem, Nat.reduceEqDiff, reduceIte, Int.reduceEq, Int.reduceLT, Int.reduceLE, Nat.reduceAdd, Nat.reduceLT, Nat.reduceLeDiff, Int.reduceToNat, Int.reduceSub, Int.reduceAdd, Int.reduceNeg]
  refine xrun_cut (fun e ρ' L' => e = .normal ∧ ρ' 2 = .ptr 0 0 0 ∧ ρ' 3 = .ptr 1 0 0 ∧ L' = [.cells 2 [[.str nm, .isl (dnRows (ds.take 40))]], .cells 9 [s.cells]]) ?_ ?_
  · by_cases hc : 40 < ds.length
    · have e1 : ((40 : Int) < (ds.length : Int)) = True := eq_true (by omega)
      have e40 : (40 ≤ ds.length) = True := eq_true (by omega)
      simp only [h0, h1, dnRows_len, rows_dn hd, e0, e1, e40, dnRows_take, decide_true, go_sem, Nat.reduceEqDiff, reduceIte, Int.reduceEq, Int.reduceLT, Int.reduceLE, Nat.reduceAdd, Nat.reduceLT, Nat.reduceLeDiff, Int.reduceToNat, Int.reduceSub, Int.reduceAdd, Int.reduceNeg]
      rfl
    · have e1 : ((40 : Int) < (ds.length : Int)) = False := eq_false (by omega)
      simp only [h0, h1, e1, decide_false, go_sem, Nat.reduceEqDiff, reduceIte, Int.reduceEq, Int.reduceLT, Int.reduceLE, Nat.reduceAdd, Nat.reduceLT, Nat.reduceLeDiff, Int.reduceToNat, Int.reduceSub, Int.reduceAdd, Int.reduceNeg]
      rw [List.take_of_length_le (show ds.length ≤ 40 by omega)]
      rfl
  rintro e ρ' L ⟨rfl, h2, h3, rfl⟩
  clear h0 h1 ρ
  simp only [h2, h3, SS.cells, nsRows_len, go_sem, Nat.reduceEqDiff, reduceIte, Int.reduceEq, Int.reduceLT, Int.reduceLE, Nat.reduceAdd, Nat.reduceLT, Nat.reduceLeDiff, Int.reduceToNat, Int.reduceSub, Int.reduceAdd, Int.reduceNeg]
  refine xrun_cut (fun e ρ'' L' => e = .normal ∧ ρ'' 2 = .ptr 0 0 0 ∧ ρ'' 3 = .ptr 1 0 0 ∧ L' = [.cells 2 [[.str nm, .isl (dnRows (ds.take 40))]], .cells 9 [{ s with ns := s.ns.take 40 }.cells]]) ?_ ?_
  · by_cases hc : 40 < s.ns.length
    · have e1 : ((40 : Int) < (s.ns.length : Int)) = True := eq_true (by omega)
      have e40 : (40 ≤ s.ns.length) = True := eq_true (by omega)
      simp only [h2, h3, nsRows_len, rows_ns, e0, e1, e40, nsRows_take, decide_true, go_sem, Nat.reduceEqDiff, reduceIte, Int.reduceEq, Int.reduceLT, Int.reduceLE, Nat.reduceAdd, Nat.reduceLT, Nat.reduceLeDiff, Int.reduceToNat, Int.reduceSub, Int.reduceAdd, Int.reduceNeg]
      rfl
    · have e1 : ((40 : Int) < (s.ns.length : Int)) = False := eq_false (by omega)
      simp only [h2, h3, e1, decide_false, go_sem, Nat.reduceEqDiff, reduceIte, Int.reduceEq, Int.reduceLT, Int.reduceLE, Nat.reduceAdd, Nat.reduceLT, Nat.reduceLeDiff, Int.reduceToNat, Int.reduceSub, Int.reduceAdd, Int.reduceNeg]
      rw [List.take_of_length_le (show s.ns.length ≤ 40 by omega)]
      rfl
  clear h2 h3 ρ'
  rintro e ρ L ⟨rfl, h2, h3, rfl⟩
  simp only [h2, h3, SS.cells, go_sem, Nat.reduceEqDiff, reduceIte, Int.reduceEq, Int.reduceLT, Int.reduceLE, Nat.reduceAdd, Nat.reduceLT, Nat.reduceLeDiff, Int.reduceToNat, Int.reduceSub, Int.reduceAdd, Int.reduceNeg]
  refine o_pcall (args' := [.str s.tx]) rfl (short_pure (E := E.noPan) hP _) (fun m => rfl) ?_
  simp only [h2, h3, go_sem, Nat.reduceEqDiff, reduceIte, Int.reduceEq, Int.reduceLT, Int.reduceLE, Nat.reduceAdd, Nat.reduceLT, Nat.reduceLeDiff, Int.reduceToNat, Int.reduceSub, Int.reduceAdd, Int.reduceNeg]
  refine o_pcall (args' := [.str s.id]) rfl (short_pure (E := E.noPan) hP _) (fun m => rfl) ?_
  simp only [h2, h3, go_sem, Nat.reduceEqDiff, reduceIte, Int.reduceEq, Int.reduceLT, Int.reduceLE, Nat.reduceAdd, Nat.reduceLT, Nat.reduceLeDiff, Int.reduceToNat, Int.reduceSub, Int.reduceAdd, Int.reduceNeg]
  refine o_pcall (args' := [.agg [.str nm, .isl (dnRows (ds.take 40))], .agg (cutS s).cells]) rfl (state_pure (E := E.noPan) hP ht hp nm (ds.take 40) (cutS s) hdk hok (by rw [List.length_take]; omega)) (fun m => rfl) ?_
  simp only [h2, h3, go_sem, Nat.reduceEqDiff, reduceIte, Int.reduceEq, Int.reduceLT, Int.reduceLE, Nat.reduceAdd, Nat.reduceLT, Nat.reduceLeDiff, Int.reduceToNat, Int.reduceSub, Int.reduceAdd, Int.reduceNeg]
  refine o_pcall (args' := [.agg [.str nm, .isl (dnRows (ds.take 40))], .agg (cutS s).cells]) rfl (rstate_pure (E := E.noPan) hP nm (ds.take 40) (cutS s) hdk hok (by rw [List.length_take]; omega)) (fun m => rfl) ?_
  have q1 : (stateF (ds.take 40) (cutS s) = stateF (ds.take 40) (cutS s)) = True := eq_self _
  generalize stateF (ds.take 40) (cutS s) = t at *
  simp only [h2, h3, q1, decide_true, go_sem, Nat.reduceEqDiff, reduceIte, Int.reduceEq, Int.reduceLT, Int.reduceLE, Nat.reduceAdd, Nat.reduceLT, Nat.reduceLeDiff, Int.reduceToNat, Int.reduceSub, Int.reduceAdd, Int.reduceNeg]
  refine o_pcall (args' := []) rfl (wakes_pure (E := E.noPan) hP hm ht) (fun m => rfl) ?_
  simp only [h2, h3, go_sem, Nat.reduceEqDiff, reduceIte, Int.reduceEq, Int.reduceLT, Int.reduceLE, Nat.reduceAdd, Nat.reduceLT, Nat.reduceLeDiff, Int.reduceToNat, Int.reduceSub, Int.reduceAdd, Int.reduceNeg]
  rfl
end
end Go.X.TryzW
end
