/- Parts of the proof: Xzlines, Xzread, Xzdoubled, Xzspaces. -/
import Derived.Test.YtnejaochjehhgaaGreatDoorXP15
import Derived.Lib.SplitLaws
import Derived.Lib.MapLaws
import Derived.Lib.FieldsP
set_option linter.unusedVariables false
set_option linter.unusedSimpArgs false
set_option linter.unusedSectionVars false
section
/- Lines and words of a text, byte by byte. -/
namespace Go.X.TryzW
open Go Go.X
set_option maxRecDepth 100000

/-! ### Lines -/
def linesGo (cur : List UInt8) : List UInt8 → List (List UInt8)
  | [] => [cur]
  | b :: r => if b = 10 then cur :: linesGo [] r else linesGo (cur ++ [b]) r

theorem index_ten : ∀ (a r : List UInt8), (∀ b ∈ a, b ≠ 10) → Lib.index (a ++ 10 :: r) [10] = a.length
  | [], r, _ => by simp [Lib.index]
  | b :: a, r, h => by
    have hb : b ≠ 10 := h b List.mem_cons_self
    have ih := index_ten a r fun x hx => h x (List.mem_cons_of_mem _ hx)
    rw [List.cons_append, Lib.index]
    have hp : ([10] : List UInt8).isPrefixOf (b :: (a ++ 10 :: r)) = false := by
      simp only [List.isPrefixOf, Bool.and_eq_false_iff]
      left
      rw [beq_eq_false_iff_ne]
      exact fun h => hb h.symm
    rw [hp, ih]
    simp

theorem linesGo_app : ∀ (a cur r : List UInt8), (∀ b ∈ a, b ≠ 10) → linesGo cur (a ++ 10 :: r) = (cur ++ a) :: linesGo [] r
  | [], cur, r, _ => by simp [linesGo]
  | b :: a, cur, r, h => by
    have hb : b ≠ 10 := h b List.mem_cons_self
    rw [List.cons_append, linesGo, if_neg hb, linesGo_app a _ r fun x hx => h x (List.mem_cons_of_mem _ hx)]
    simp
theorem linesGo_last : ∀ (a cur : List UInt8), (∀ b ∈ a, b ≠ 10) → linesGo cur a = [cur ++ a]
  | [], cur, _ => by simp [linesGo]
  | b :: a, cur, h => by
    have hb : b ≠ 10 := h b List.mem_cons_self
    rw [linesGo, if_neg hb, linesGo_last a _ fun x hx => h x (List.mem_cons_of_mem _ hx)]
    simp
theorem ten_cut : ∀ s : List UInt8, (∀ b ∈ s, b ≠ 10) ∨ ∃ a r, s = a ++ 10 :: r ∧ ∀ b ∈ a, b ≠ 10
  | [] => .inl (by simp)
  | b :: s => by
    by_cases hb : b = 10
    · exact .inr ⟨[], s, by rw [hb]; rfl, by simp⟩
    · rcases ten_cut s with h | ⟨a, r, rfl, h⟩
      · left
        intro x hx
        rcases List.mem_cons.1 hx with rfl | hx
        · exact hb
        · exact h x hx
      · refine .inr ⟨b :: a, r, rfl, ?_⟩
        intro x hx
        rcases List.mem_cons.1 hx with rfl | hx
        · exact hb
        · exact h x hx
theorem splitK_lines : ∀ (n : Nat) (s : List UInt8), s.length ≤ n → Lib.splitK [10] 0 (Lib.count s [10]) s = linesGo [] s := by
  intro n
  induction n with
  | zero =>
    intro s h
    have : s = [] := List.eq_nil_of_length_eq_zero (by omega)
    subst this
    rw [Lib.count_one]; rfl
  | succ n ih =>
    intro s h
    rcases ten_cut s with hs | ⟨a, r, rfl, ha⟩
    · rw [linesGo_last _ _ hs, Lib.count_one, List.count_eq_zero_of_not_mem (fun hm => hs 10 hm rfl)]
      rfl
    · have hc : Lib.count (a ++ 10 :: r) [10] = Lib.count r [10] + 1 := by
        rw [Lib.count_one, Lib.count_one, List.count_append, List.count_cons_self, List.count_eq_zero_of_not_mem (fun hm => ha 10 hm rfl)]; omega
      rw [hc, linesGo_app _ _ _ ha, Lib.splitK, index_ten a r ha]
      have hne : ((a.length : Int) == -1) = false := by rw [beq_eq_false_iff_ne]; omega
      rw [hne]
      simp only [Bool.false_eq_true, if_false, Int.toNat_natCast, Nat.add_zero, List.length_cons, List.length_nil, Nat.zero_add, List.nil_append]
      have hd : (a ++ 10 :: r).drop (a.length + 1) = r := by
        rw [show a ++ 10 :: r = (a ++ [10]) ++ r by simp]; exact List.drop_left' (by simp)
      have hl : r.length ≤ n := by rw [List.length_append, List.length_cons] at h; omega
      rw [List.take_left' rfl, hd, ih r hl]
theorem splitL_lines (s : List UInt8) : splitL [10] s = linesGo [] s := by
  unfold splitL
  rw [Lib.splitB_data]
  exact splitK_lines _ s (Nat.le_refl _)

/-! ### Words -/
def wordsGo (cur : List UInt8) : List UInt8 → List (List UInt8)
  | [] => if cur = [] then [] else [cur]
  | b :: r => if b = 32 then (if cur = [] then wordsGo [] r else cur :: wordsGo [] r) else wordsGo (cur ++ [b]) r
theorem wordsGo_run : ∀ (w cur r : List UInt8), (∀ b ∈ w, b ≠ 32) → wordsGo cur (w ++ r) = wordsGo (cur ++ w) r
  | [], cur, r, _ => by simp
  | b :: w, cur, r, h => by
    have hb : b ≠ 32 := h b List.mem_cons_self
    rw [List.cons_append, wordsGo, if_neg hb, wordsGo_run w _ r fun x hx => h x (List.mem_cons_of_mem _ hx)]
    simp

theorem step_bytes (n b0 b1 b2 b3 : Nat) (hn : 1 ≤ n) : (blankR (Lib.decodeN n b0 b1 b2 b3).1 = true → b0 = 32 ∧ (Lib.decodeN n b0 b1 b2 b3).2 = 1) ∧
    (blankR (Lib.decodeN n b0 b1 b2 b3).1 = false → 1 ≤ (Lib.decodeN n b0 b1 b2 b3).2 ∧ (Lib.decodeN n b0 b1 b2 b3).2 ≤ 4 ∧ (Lib.decodeN n b0 b1 b2 b3).2 ≤ n ∧ b0 ≠ 32 ∧ (2 ≤ (Lib.decodeN n b0 b1 b2 b3).2 → b1 ≠ 32) ∧ (3 ≤ (Lib.decodeN n b0 b1 b2 b3).2 → b2 ≠ 32) ∧ (4 ≤ (Lib.decodeN n b0 b1 b2 b3).2 → b3 ≠ 32)) := by
  unfold blankR
  by_cases h0 : b0 < 128
  · rw [Lib.decodeN_ascii _ _ _ _ _ h0]
    simp only [decide_eq_true_eq, decide_eq_false_iff_not]
    refine ⟨fun h => ⟨by omega, trivial⟩, fun h => ⟨by omega, by omega, by omega, by omega, by omega, by omega, by omega⟩⟩
  · rcases Lib.decodeN_shape n b0 b1 b2 b3 with ⟨c, e⟩ | ⟨c1, c2, c3, cv, e⟩ | ⟨c1, c2, c3, c4, cv, cs, e⟩ | ⟨c1, c2, c3, c4, c5, cv, cw, e⟩ | e
    all_goals
      rw [e]
      simp only [decide_eq_true_eq, decide_eq_false_iff_not]
      refine ⟨fun h => ?_, fun h => ⟨by omega, by omega, by omega, by omega, by omega, by omega, by omega⟩⟩
      omega
open Go.Lib in
theorem spansP_eq (s : ByteArray) : ∀ (f pos : Nat) (st : Option Nat) (acc : List (Nat × Nat)), s.size ≤ pos + f → pos ≤ s.size → (∀ a, st = some a → a < pos) →
    acc.map (fun p => pieceU s.data.toList p.1 p.2) ++ wordsGo (openPiece s.data.toList st pos) (s.data.toList.drop pos) = (closeSpans s (spansFromP blankR s f pos st acc)).map (fun p => pieceU s.data.toList p.1 p.2)
  | 0, pos, st, acc, h, hp, hst => by
    obtain rfl : pos = s.size := by omega
    have hd : s.data.toList.drop s.size = [] := List.drop_eq_nil_of_le (by rw [← size_eq]; exact Nat.le_refl _)
    rw [hd, wordsGo]
    cases st with
    | none => simp [spansFromP, closeSpans, openPiece]
    | some a =>
      have := pieceU_ne s.data.toList a s.size (hst a rfl) (by rw [← size_eq]; exact Nat.le_refl _)
      simp [spansFromP, closeSpans, openPiece, this]
  | f + 1, pos, st, acc, h, hp, hst => by
    by_cases hlt : pos < s.size
    · have hl : s.data.toList.length = s.size := (size_eq s).symm
      have hsb := step_bytes (s.data.toList.length - pos) (s.data.toList.getD pos 0).toNat (s.data.toList.getD (pos + 1) 0).toNat (s.data.toList.getD (pos + 2) 0).toNat (s.data.toList.getD (pos + 3) 0).toNat (by omega)
      rw [← decode_N] at hsb
      obtain ⟨hs1, hs2⟩ := hsb
      simp only [spansFromP, if_pos hlt]
      have hn0 : ∀ i, i < s.size → (s.data.toList.getD i 0).toNat ≠ 32 → s.data.toList.getD i 0 ≠ 32 := fun i _ h e => h (by rw [e]; rfl)
      cases hsp : blankR (Utf8.decode s pos).1 with
      | true =>
        obtain ⟨hb, hw⟩ := hs1 hsp
        simp only [if_true]
        rw [hw]
        have hb' : s.data.toList.getD pos 0 = 32 := UInt8.toNat_inj.1 (by rw [hb]; rfl)
        have hdr : s.data.toList.drop pos = 32 :: s.data.toList.drop (pos + 1) := by
          have hlp : pos < s.data.toList.length := by omega
          rw [List.drop_eq_getElem_cons hlp]
          congr 1
          rw [← hb', List.getD_eq_getElem?_getD, List.getElem?_eq_getElem hlp]; rfl
        rw [hdr, wordsGo, if_pos rfl]
        cases st with
        | none =>
          have ih := spansP_eq s f (pos + 1) none acc (by omega) (by omega) (fun a h => by cases h)
          simpa [openPiece] using ih
        | some a =>
          have hpn := pieceU_ne s.data.toList a pos (hst a rfl) (by rw [← size_eq]; omega)
          have ih := spansP_eq s f (pos + 1) none (acc ++ [(a, pos)]) (by omega) (by omega) (fun a h => by cases h)
          simpa [openPiece, hpn] using ih
      | false =>
        obtain ⟨hw1, hw4, hwn, hb0, hb1, hb2, hb3⟩ := hs2 hsp
        generalize (Utf8.decode s pos).2 = w at *
        simp only [Bool.false_eq_true, if_false]
        have hrun : ∀ b ∈ (s.data.toList.drop pos).take w, b ≠ 32 := by
          intro b hb e
          obtain ⟨i, hi, rfl⟩ := List.getElem_of_mem hb
          rw [List.length_take, List.length_drop] at hi
          rw [List.getElem_take, List.getElem_drop] at e
          have hg : s.data.toList.getD (pos + i) 0 = 32 := by rw [List.getD_eq_getElem?_getD, List.getElem?_eq_getElem (by omega)]; exact e
          have hg' : (s.data.toList.getD (pos + i) 0).toNat = 32 := by rw [hg]; rfl
          have hi' : i = 0 ∨ i = 1 ∨ i = 2 ∨ i = 3 := by omega
          rcases hi' with rfl | rfl | rfl | rfl
          · exact hb0 hg'
          · exact hb1 (by omega) hg'
          · exact hb2 (by omega) hg'
          · exact hb3 (by omega) hg'
        have hdr : s.data.toList.drop pos = (s.data.toList.drop pos).take w ++ s.data.toList.drop (pos + w) := by
          rw [← List.drop_drop, List.take_append_drop]
        cases st with
        | none =>
          have ih := spansP_eq s f (pos + w) (some pos) acc (by omega) (by omega) (fun a h => by cases h; omega)
          have e : ([] : List UInt8) ++ (s.data.toList.drop pos).take w = pieceU s.data.toList pos (pos + w) := by
            unfold pieceU
            rw [List.nil_append, Nat.add_sub_cancel_left]
          simp only [openPiece] at ih ⊢
          rw [hdr, wordsGo_run _ _ _ hrun, e]
          exact ih
        | some a =>
          have ih := spansP_eq s f (pos + w) (some a) acc (by omega) (by omega) (fun b h => by cases h; have := hst a rfl; omega)
          simp only [openPiece] at ih ⊢
          rw [hdr, wordsGo_run _ _ _ hrun, pieceU_grow _ _ _ _ (Nat.le_of_lt (hst a rfl))]
          exact ih
    · obtain rfl : pos = s.size := by omega
      have hd : s.data.toList.drop s.size = [] := List.drop_eq_nil_of_le (by rw [← size_eq]; exact Nat.le_refl _)
      rw [hd, wordsGo, spansFromP_end _ s _ _ _ _ hlt]
      cases st with
      | none => simp [closeSpans, openPiece]
      | some a =>
        have := pieceU_ne s.data.toList a s.size (hst a rfl) (by rw [← size_eq]; exact Nat.le_refl _)
        simp [closeSpans, openPiece, this]

open Go.Lib in
/-- The words are what stands between the blanks, byte by byte, whatever the bytes are. -/
theorem fieldsL_words (l : List UInt8) : fieldsL l = wordsGo [] l := by
  have h := spansP_eq ⟨l.toArray⟩ (ByteArray.size ⟨l.toArray⟩) 0 none [] (by omega) (Nat.zero_le _) (fun a h => by cases h)
  simp only [List.map_nil, List.nil_append, openPiece, List.drop_zero] at h
  unfold fieldsL goFieldsP spansOfP
  rw [h, List.map_map]
  congr 1
  funext p
  simp [pieceU]
end Go.X.TryzW
end
section
/- The text of a definition, read line by line. -/
namespace Go.X.TryzW
open Go Go.X
set_option maxRecDepth 100000
set_option linter.unusedSimpArgs false

/-- A word: bytes, none of them a blank or an end of line. -/
def GoodW (w : List UInt8) : Prop := w ≠ [] ∧ (∀ b ∈ w, b ≠ 32) ∧ (∀ b ∈ w, b ≠ 10)
theorem goodW_of (w : List UInt8) (h : (!w.isEmpty && w.all fun b => !decide (b = 32) && !decide (b = 10)) = true) : GoodW w := by
  simp only [Bool.and_eq_true, Bool.not_eq_true', List.isEmpty_eq_false_iff, List.all_eq_true, decide_eq_false_iff_not] at h
  exact ⟨h.1, fun b hb => (h.2 b hb).1, fun b hb => (h.2 b hb).2⟩
theorem named_good {s : List UInt8} {b : Bool} {m : Int} (h : namedS s b m = true) : GoodW s := by
  have hl := named_len h
  unfold namedS at h
  simp only [Bool.and_eq_true, List.all_eq_true] at h
  have key : ∀ c : UInt8, okB b c = true → c ≠ 32 ∧ c ≠ 10 := by
    intro c hc
    constructor <;> (intro e; subst e; revert hc; cases b <;> decide)
  refine ⟨fun e => by rw [e] at hl; simp at hl, fun c hc => (key c (h.1 c hc)).1, fun c hc => (key c (h.1 c hc)).2⟩
theorem dec_good (N : Nat) : GoodW (Lib.decDigits N) := by
  have h := dec_dig N
  have key : ∀ c : UInt8, digB c = true → c ≠ 32 ∧ c ≠ 10 := by
    intro c hc
    constructor <;> (intro e; subst e; revert hc; decide)
  exact ⟨dec_ne N, fun c hc => (key c (h c hc)).1, fun c hc => (key c (h c hc)).2⟩
theorem itoa_good {n : Int} (h : 0 ≤ n) : GoodW (Lib.itoa n) := by
  obtain ⟨N, rfl⟩ : ∃ N : Nat, n = N := ⟨n.toNat, by omega⟩
  rw [itoa_nat]; exact dec_good N
theorem words_good {n : NodeD} (h : NodeOk n) : ∀ w ∈ n.words, GoodW w := by
  have hd := h.delay.1
  intro w hw
  unfold NodeD.words at hw
  simp only [List.mem_append, List.mem_cons, List.not_mem_nil, or_false] at hw
  rcases hw with ((((hw | hw) | hw) | hw) | hw)
  · rcases hw with rfl | rfl
    · exact named_good h.name
    · unfold kindS
      repeat' split
      all_goals exact goodW_of _ (by decide)
  · unfold NodeD.w1 at hw
    split at hw
    · rw [List.mem_singleton] at hw; subst hw; exact itoa_good hd
    · rename_i h2
      split at hw
      · rename_i h5
        simp only [List.mem_cons, List.not_mem_nil, or_false] at hw
        rcases hw with rfl | rfl
        · exact named_good (h.to5 h5)
        · exact named_good (h.arg h2)
      · rw [List.mem_singleton] at hw; subst hw; exact named_good (h.arg h2)
  · unfold NodeD.w2 at hw
    split at hw
    · rename_i hk
      simp only [List.mem_cons, List.not_mem_nil, or_false] at hw
      rcases hw with rfl | rfl
      · exact goodW_of _ (by decide)
      · have := h.tries hk.1; exact itoa_good (by omega)
    · cases hw
  · unfold NodeD.w3 at hw
    split at hw
    · simp only [List.mem_cons, List.not_mem_nil, or_false] at hw
      rcases hw with rfl | rfl
      · exact goodW_of _ (by decide)
      · exact itoa_good hd
    · cases hw
  · unfold NodeD.w4 at hw
    split at hw
    · cases hw
    · rcases List.mem_cons.1 hw with rfl | hw
      · exact goodW_of _ (by decide)
      · exact named_good (h.after w hw)

/-- Blanks: one or more. -/
theorem blanks_skip : ∀ (sp l : List UInt8), (∀ b ∈ sp, b = 32) → wordsGo [] (sp ++ l) = wordsGo [] l
  | [], _, _ => rfl
  | b :: sp, l, h => by
    have hb : b = 32 := h b List.mem_cons_self
    rw [List.cons_append, wordsGo, if_pos hb, if_pos rfl, blanks_skip sp l fun x hx => h x (List.mem_cons_of_mem _ hx)]
theorem words_tail (sp : List UInt8) (hsp : ∀ b ∈ sp, b = 32) : ∀ (r : List (List UInt8)) (cur : List UInt8), (∀ w ∈ r, GoodW w) → wordsGo cur (Lib.joinTail (32 :: sp) r) = (if cur = [] then [] else [cur]) ++ r
  | [], cur, _ => by simp [Lib.joinTail, wordsGo]
  | y :: r, cur, h => by
    have hy := h y List.mem_cons_self
    have ih := words_tail sp hsp r y fun w hw => h w (List.mem_cons_of_mem _ hw)
    have e : Lib.joinTail (32 :: sp) (y :: r) = 32 :: (sp ++ (y ++ Lib.joinTail (32 :: sp) r)) := by simp [Lib.joinTail]
    rw [e, wordsGo, if_pos rfl, blanks_skip _ _ hsp, wordsGo_run _ _ _ hy.2.1, List.nil_append, ih, if_neg hy.1]
    split <;> simp
theorem words_join (sp : List UInt8) (hsp : ∀ b ∈ sp, b = 32) (ws : List (List UInt8)) (h : ∀ w ∈ ws, GoodW w) : wordsGo [] (Lib.join ws (32 :: sp)) = ws := by
  cases ws with
  | nil => simp [Lib.join, List.intercalate, wordsGo]
  | cons x r =>
    have hx := h x List.mem_cons_self
    rw [Lib.join_cons, wordsGo_run _ _ _ hx.2.1, List.nil_append, words_tail sp hsp r x fun w hw => h w (List.mem_cons_of_mem _ hw), if_neg hx.1]
    rfl
theorem join_no10 (sp : List UInt8) (hsp : ∀ b ∈ sp, b = 32) (ws : List (List UInt8)) (h : ∀ w ∈ ws, GoodW w) : ∀ b ∈ Lib.join ws (32 :: sp), b ≠ 10 := by
  have h32 : ∀ b ∈ (32 :: sp), b ≠ 10 := by
    intro b hb e
    subst e
    rcases List.mem_cons.1 hb with hb | hb
    · revert hb; decide
    · have := hsp _ hb; revert this; decide
  cases ws with
  | nil => simp [Lib.join, List.intercalate]
  | cons x r =>
    rw [Lib.join_cons]
    intro b hb
    rcases List.mem_append.1 hb with hb | hb
    · exact (h x List.mem_cons_self).2.2 b hb
    · unfold Lib.joinTail at hb
      obtain ⟨l, hl, hb⟩ := List.mem_flatten.1 hb
      obtain ⟨w, hw, rfl⟩ := List.mem_map.1 hl
      rcases List.mem_append.1 hb with hb | hb
      · exact h32 b hb
      · exact (h w (List.mem_cons_of_mem _ hw)).2.2 b hb

/-! ### The definition's text -/
def nodeL (n : NodeD) : List UInt8 := Lib.join n.words [32]
theorem line_nodeL (n : NodeD) : n.line = nodeL n ++ [10] := rfl
def hdrL (d : DefD) : List UInt8 := hdrW ++ d.name
theorem hdr_words (d : DefD) (h : namedS d.name false 64 = true) : wordsGo [] (hdrL d) = [[119, 111, 114, 107, 102, 108, 111, 119], d.name] ∧ ∀ b ∈ hdrL d, b ≠ 10 := by
  have hg := named_good h
  have e : hdrL d = Lib.join [[119, 111, 114, 107, 102, 108, 111, 119], d.name] [32] := by rw [Lib.join_cons]; simp [Lib.joinTail, hdrL, hdrW]
  have hw : ∀ w ∈ [[119, 111, 114, 107, 102, 108, 111, 119], d.name], GoodW w := by
    intro w hw
    simp only [List.mem_cons, List.not_mem_nil, or_false] at hw
    rcases hw with rfl | rfl
    · exact goodW_of _ (by decide)
    · exact hg
  rw [e]
  exact ⟨words_join [] (by simp) _ hw, join_no10 [] (by simp) _ hw⟩
theorem getD_last {α : Type} (l : List α) (x df : α) : (l ++ [x]).getD ((l ++ [x]).length - 1) df = x := by simp [List.getD_eq_getElem?_getD]
theorem no10_2 : ∀ b ∈ ([32, 32] : List UInt8), b ≠ 10 := by decide
/-- Bounds of lines. -/
theorem lines_bound : ∀ (s cur : List UInt8), (linesGo cur s).length ≤ s.length + 1 ∧ (∀ l ∈ linesGo cur s, l.length ≤ cur.length + s.length) ∧ linesGo cur s ≠ []
  | [], cur => by simp [linesGo]
  | b :: s, cur => by
    rw [linesGo]
    split
    · obtain ⟨h1, h2, h3⟩ := lines_bound s []
      refine ⟨by simp only [List.length_cons]; omega, ?_, by simp⟩
      intro l hl
      rcases List.mem_cons.1 hl with rfl | hl
      · omega
      · have := h2 l hl; simp at this ⊢; omega
    · obtain ⟨h1, h2, h3⟩ := lines_bound s (cur ++ [b])
      refine ⟨by simp only [List.length_cons]; omega, ?_, h3⟩
      intro l hl
      have := h2 l hl
      simp at this ⊢; omega
end Go.X.TryzW
end
section
/- A definition's text with its blanks doubled, and lines that say nothing between. -/
namespace Go.X.TryzW
open Go Go.X
set_option maxRecDepth 100000
set_option linter.unusedSimpArgs false

def plainS (r : List UInt8) : List UInt8 := (r.take 40).filter fun b => !decide (b = 10)
def insS (x : List UInt8) : List UInt8 := [32, 32, 35] ++ plainS x ++ [10, 32, 10]
def dblB (b : UInt8) : List UInt8 := if b = 32 then [b, 32] else [b]
def spGo : List (List UInt8) → List UInt8 → List UInt8
  | _, [] => []
  | [], b :: r => dblB b ++ spGo [] r
  | x :: xs, b :: r => if b = 10 then 10 :: (insS x ++ spGo xs r) else dblB b ++ spGo (x :: xs) r
def dbl (l : List UInt8) : List UInt8 := (l.map dblB).flatten

theorem dbl_cons (b : UInt8) (l : List UInt8) : dbl (b :: l) = dblB b ++ dbl l := rfl
theorem dbl_app (a b : List UInt8) : dbl (a ++ b) = dbl a ++ dbl b := by simp [dbl]
theorem spGo_nil (xs : List (List UInt8)) : spGo xs [] = [] := by cases xs <;> rfl
theorem spGo_app : ∀ (l : List UInt8) (xs : List (List UInt8)) (r : List UInt8), (∀ b ∈ l, b ≠ 10) → spGo xs (l ++ r) = dbl l ++ spGo xs r
  | [], xs, r, _ => rfl
  | b :: l, [], r, h => by
    rw [List.cons_append, spGo, spGo_app l [] r fun x hx => h x (List.mem_cons_of_mem _ hx), dbl_cons, List.append_assoc]
  | b :: l, x :: xs, r, h => by
    have hb : b ≠ 10 := h b List.mem_cons_self
    rw [List.cons_append, spGo, if_neg hb, spGo_app l (x :: xs) r fun x hx => h x (List.mem_cons_of_mem _ hx), dbl_cons, List.append_assoc]
def spTen (xs : List (List UInt8)) (r : List UInt8) : List UInt8 := match xs with
  | [] => spGo [] r
  | x :: xs => insS x ++ spGo xs r
theorem spGo_ten (xs : List (List UInt8)) (r : List UInt8) : spGo xs (10 :: r) = 10 :: spTen xs r := by
  cases xs with
  | nil => rfl
  | cons x xs => rw [spGo, if_pos rfl]; rfl
theorem dbl_word {w : List UInt8} (h : ∀ b ∈ w, b ≠ 32) : dbl w = w := by
  induction w with
  | nil => rfl
  | cons b w ih =>
    rw [dbl_cons, ih fun x hx => h x (List.mem_cons_of_mem _ hx)]
    unfold dblB
    rw [if_neg (h b List.mem_cons_self)]; rfl
theorem dbl_tail : ∀ (r : List (List UInt8)), (∀ w ∈ r, GoodW w) → dbl (Lib.joinTail [32] r) = Lib.joinTail [32, 32] r
  | [], _ => rfl
  | y :: r, h => by
    have hy := h y List.mem_cons_self
    have ih := dbl_tail r fun w hw => h w (List.mem_cons_of_mem _ hw)
    have e1 : Lib.joinTail [32] (y :: r) = [32] ++ (y ++ Lib.joinTail [32] r) := by simp [Lib.joinTail]
    have e2 : Lib.joinTail [32, 32] (y :: r) = [32, 32] ++ (y ++ Lib.joinTail [32, 32] r) := by simp [Lib.joinTail]
    rw [e1, e2, dbl_app, dbl_app, dbl_word hy.2.1, ih]; rfl
theorem dbl_join (ws : List (List UInt8)) (h : ∀ w ∈ ws, GoodW w) : dbl (Lib.join ws [32]) = Lib.join ws [32, 32] := by
  cases ws with
  | nil => simp [Lib.join, List.intercalate, dbl]
  | cons x r =>
    rw [Lib.join_cons, Lib.join_cons, dbl_app, dbl_word (h x List.mem_cons_self).2.1, dbl_tail r fun w hw => h w (List.mem_cons_of_mem _ hw)]
theorem all32 : ∀ b ∈ ([32] : List UInt8), b = 32 := by decide
theorem dbl_fields (ws : List (List UInt8)) (h : ∀ w ∈ ws, GoodW w) : wordsGo [] (dbl (Lib.join ws [32])) = ws ∧ ∀ b ∈ dbl (Lib.join ws [32]), b ≠ 10 := by
  rw [dbl_join ws h]
  exact ⟨words_join [32] all32 ws h, join_no10 [32] all32 ws h⟩
theorem words_head : ∀ (l c : List UInt8), ∃ r t, wordsGo (35 :: c) l = (35 :: r) :: t
  | [], c => ⟨c, [], by simp [wordsGo]⟩
  | b :: l, c => by
    rw [wordsGo]
    split
    · exact ⟨c, _, by rw [if_neg (by simp)]⟩
    · exact words_head l (c ++ [b])
theorem skip_remark (p : List UInt8) : skipW (fieldsL ([32, 32, 35] ++ p)) := by
  rw [fieldsL_words]
  have : wordsGo [] ([32, 32, 35] ++ p) = wordsGo [35] p := rfl
  rw [this]
  exact .inr (words_head p [])
theorem skip_blank : skipW (fieldsL [32]) := by rw [fieldsL_words]; exact .inl rfl
theorem skip_blanks : skipW (fieldsL [32, 32]) := by rw [fieldsL_words]; exact .inl rfl
theorem plain_no10 (x : List UInt8) : ∀ b ∈ [32, 32, 35] ++ plainS x, b ≠ 10 := by
  intro b hb
  rcases List.mem_append.1 hb with hb | hb
  · exact (show ∀ b ∈ ([32, 32, 35] : List UInt8), b ≠ 10 by decide) b hb
  · have := (List.mem_filter.1 hb).2
    simpa using this
theorem lines_ten {d : DefD} {st : Option Nat} {r : List UInt8} (h : ∀ xs, ∃ Ls, linesGo [] (spGo xs r) = Ls ++ [[]] ∧ Reads d st Ls) (xs : List (List UInt8)) : ∃ Ls, linesGo [] (spTen xs r) = Ls ++ [[]] ∧ Reads d st Ls := by
  cases xs with
  | nil => exact h []
  | cons x xs =>
    obtain ⟨Ls, h1, h2⟩ := h xs
    refine ⟨([32, 32, 35] ++ plainS x) :: [32] :: Ls, ?_, .skip _ _ _ (skip_remark _) (.skip _ _ _ skip_blank h2)⟩
    have e : spTen (x :: xs) r = ([32, 32, 35] ++ plainS x) ++ 10 :: ([32] ++ 10 :: spGo xs r) := by simp [spTen, insS]
    rw [e, linesGo_app _ _ _ (plain_no10 x), linesGo_app _ _ _ (by decide), h1]
    rfl
theorem lines_sp {d : DefD} (hok : ∀ n ∈ d.nodes, NodeOk n) : ∀ m k, m + k = d.nodes.length → ∀ xs, ∃ Ls, linesGo [] (spGo xs ((d.nodes.drop k).map NodeD.line).flatten) = Ls ++ [[]] ∧ Reads d (some k) Ls
  | 0, k, h, xs => by
    have : k = d.nodes.length := by omega
    subst this
    refine ⟨[], ?_, .done⟩
    rw [List.drop_length, List.map_nil, List.flatten_nil, spGo_nil]; rfl
  | m + 1, k, h, xs => by
    have hk : k < d.nodes.length := by omega
    have hn := hok _ (List.getElem_mem hk)
    have hg := words_good hn
    obtain ⟨hf, h10⟩ := dbl_fields _ hg
    obtain ⟨Ls, h1, h2⟩ := lines_ten (lines_sp hok m (k + 1) (by omega)) xs
    have he : d.nodes.getD k default = d.nodes[k] := by rw [List.getD_eq_getElem?_getD, List.getElem?_eq_getElem hk]; rfl
    refine ⟨dbl (nodeL d.nodes[k]) :: Ls, ?_, .node k _ _ hk (by rw [fieldsL_words, he]; exact hf) h2⟩
    have e : ((d.nodes.drop k).map NodeD.line).flatten = nodeL d.nodes[k] ++ 10 :: ((d.nodes.drop (k + 1)).map NodeD.line).flatten := by
      rw [List.drop_eq_getElem_cons hk, List.map_cons, List.flatten_cons, line_nodeL, List.append_assoc]; rfl
    rw [e, spGo_app (nodeL d.nodes[k]) _ _ (join_no10 [] (by simp) _ hg), spGo_ten, linesGo_app (dbl (nodeL d.nodes[k])) _ _ h10, h1]
    rfl
theorem parse_spaces {d : DefD} (hc : d.check.2 = 0) (xs : List (List UInt8)) : Reads d none (parseLines ([32, 32, 10] ++ spGo xs d.text)) := by
  have hnm := (check_ok hc).2.2.2.2.1
  have hw : ∀ w ∈ [[119, 111, 114, 107, 102, 108, 111, 119], d.name], GoodW w := by
    intro w hw
    simp only [List.mem_cons, List.not_mem_nil, or_false] at hw
    rcases hw with rfl | rfl
    · exact goodW_of _ (by decide)
    · exact named_good hnm
  have e0 : hdrL d = Lib.join [[119, 111, 114, 107, 102, 108, 111, 119], d.name] [32] := by rw [Lib.join_cons]; simp [Lib.joinTail, hdrL, hdrW]
  obtain ⟨hf, h10⟩ := dbl_fields _ hw
  obtain ⟨Ls, h1, h2⟩ := lines_ten (lines_sp (d := d) (fun n hn => node_ok hc hn) d.nodes.length 0 (by omega)) xs
  have h9 := (hdr_words d hnm).2
  rw [← e0] at hf h10
  have e : [32, 32, 10] ++ spGo xs d.text = [32, 32] ++ 10 :: (dbl (hdrL d) ++ 10 :: spTen xs ((d.nodes.drop 0).map NodeD.line).flatten) := by
    have e1 : d.text = hdrL d ++ 10 :: ((d.nodes.drop 0).map NodeD.line).flatten := by simp [DefD.text, DefD.hdr, hdrL]
    rw [e1, spGo_app _ _ _ h9, spGo_ten]; rfl
  have hl : splitL [10] ([32, 32, 10] ++ spGo xs d.text) = ([32, 32] :: dbl (hdrL d) :: Ls) ++ [[]] := by
    rw [splitL_lines, e, linesGo_app _ _ _ no10_2, linesGo_app _ _ _ h10, h1]; rfl
  unfold parseLines
  rw [hl, getD_last, if_pos rfl, List.take_left' (by simp)]
  exact .skip _ _ _ skip_blanks (.hdr _ _ (by rw [fieldsL_words]; exact hf) h2)
/-- How long it is. -/
theorem plain_len (x : List UInt8) : (plainS x).length ≤ 40 := Nat.le_trans (List.length_filter_le ..) (List.length_take_le ..)
end Go.X.TryzW
end
section
open Go Go.X Go.Proofs
set_option maxRecDepth 100000
set_option maxHeartbeats 4000000
set_option linter.unusedSimpArgs false
set_option linter.unusedVariables false
namespace Go.X.TryzW
/- "tiller/tillerlaw08.plain" params { toList := [9] } results { toList := [Go.ResultVar.tmp 2] } -/
def y11 : XC :=
 (.seq
  (.ops [
    ⟨(some 2), (.mov (.c (.str []))), none⟩])
  (.seq
   (.ops [
     ⟨(some 3), (.mov (.c (.str []))), none⟩])
   (.seq
    (.seq
     (.ops [
       ⟨(some 4), (.mov (.c (.int .i64 0))), none⟩])
     (.block 0
      (.loop
       (.seq
        (.seq
         (.ops [
           ⟨(some 5), (.mov (.t 4)), none⟩,
           ⟨(some 6), (.mov (.t 0)), none⟩,
           ⟨(some 7), (.lenS (.t 6)), none⟩,
           ⟨(some 8), (.bin .lss (.t 5) (.t 7)), none⟩,
           ⟨(some 9), (.mov (.t 8)), none⟩,
           ⟨(some 10), (.mov (.t 4)), (some (9, true))⟩,
           ⟨(some 11), (.bin .lss (.t 10) (.c (.int .i64 40))), (some (9, true))⟩,
           ⟨(some 12), (.pick (.t 9) (.t 11) (.c (.bool false))), none⟩])
         (.cond (.t 12)
          .skip
          (.exit 0)))
        (.seq
         (.block 1
          (.seq
           (.ops [
             ⟨(some 15), (.mov (.t 0)), none⟩,
             ⟨(some 16), (.mov (.t 4)), none⟩,
             ⟨(some 17), (.idx (.t 15) (.t 16)), none⟩,
             ⟨(some 18), (.bin .neq (.t 17) (.c (.int .u8 10))), none⟩])
           (.cond (.t 18)
            (.ops [
              ⟨(some 19), (.mov (.t 3)), none⟩,
              ⟨(some 20), (.mov (.t 0)), none⟩,
              ⟨(some 21), (.mov (.t 4)), none⟩,
              ⟨(some 22), (.mov (.t 4)), none⟩,
              ⟨(some 23), (.bin .add (.t 22) (.c (.int .i64 1))), none⟩,
              ⟨(some 24), (.sliceS (.t 20) (some (.t 21)) (some (.t 23))), none⟩,
              ⟨(some 25), (.bin .add (.t 19) (.t 24)), none⟩,
              ⟨(some 3), (.mov (.t 25)), none⟩])
            .skip)))
         (.ops [
           ⟨(some 13), (.mov (.t 4)), none⟩,
           ⟨(some 14), (.bin .add (.t 13) (.c (.int .i64 1))), none⟩,
           ⟨(some 4), (.mov (.t 14)), none⟩]))))))
    (.seq
     (.ops [
       ⟨(some 26), (.mov (.t 3)), none⟩,
       ⟨(some 2), (.mov (.t 26)), none⟩])
     .ret))))

/- "tiller/tillerlaw08.DagSpaces" params { toList := [24, 33] } results { toList := [Go.ResultVar.tmp 4] } -/
def y4 : XC :=
 (.seq
  (.ops [
    ⟨(some 2), (.box (.t 0)), none⟩,
    ⟨(some 4), (.mov (.c (.bool false))), none⟩])
  (.seq
   (.ops [
     ⟨(some 12), (.loadN 2 (.t 2)), none⟩,
     ⟨(some 13), (.call (.f 5) [(.t 12)]), none⟩,
     ⟨none, (.store 2 (.t 2) (.t 13)), none⟩])
   (.seq
    (.ops [
      ⟨(some 14), (.loadN 2 (.t 2)), none⟩,
      ⟨(some 15), (.call (.f 6) [(.t 14)]), none⟩,
      ⟨(some 5), (.mov (.t 15)), none⟩])
    (.seq
     (.seq
      (.ops [
        ⟨(some 16), (.mov (.t 5)), none⟩,
        ⟨(some 17), (.bin .eql (.t 16) (.c (.str []))), none⟩,
        ⟨(some 18), (.mov (.t 17)), none⟩,
        ⟨(some 19), (.mov (.t 5)), (some (18, false))⟩,
        ⟨(some 20), (.lenS (.t 19)), (some (18, false))⟩,
        ⟨(some 21), (.bin .gtr (.t 20) (.c (.int .i64 6000))), (some (18, false))⟩,
        ⟨(some 22), (.pick (.t 18) (.c (.bool true)) (.t 21)), none⟩])
      (.cond (.t 22)
       (.seq
        (.ops [
          ⟨(some 23), (.call (.f 8) []), none⟩,
          ⟨(some 4), (.mov (.t 23)), none⟩])
        .ret)
       .skip))
     (.seq
      (.ops [
        ⟨(some 6), (.mov (.c (.str []))), none⟩])
      (.seq
       (.ops [
         ⟨(some 7), (.mov (.c (.int .i64 0))), none⟩])
       (.seq
        (.seq
         (.ops [
           ⟨(some 8), (.mov (.c (.int .i64 0))), none⟩])
         (.block 0
          (.loop
           (.seq
            (.seq
             (.ops [
               ⟨(some 24), (.mov (.t 8)), none⟩,
               ⟨(some 25), (.mov (.t 5)), none⟩,
               ⟨(some 26), (.lenS (.t 25)), none⟩,
               ⟨(some 27), (.bin .lss (.t 24) (.t 26)), none⟩])
             (.cond (.t 27)
              .skip
              (.exit 0)))
            (.seq
             (.block 1
              (.seq
               (.ops [
                 ⟨(some 30), (.mov (.t 6)), none⟩,
                 ⟨(some 31), (.mov (.t 5)), none⟩,
                 ⟨(some 32), (.mov (.t 8)), none⟩,
                 ⟨(some 33), (.mov (.t 8)), none⟩,
                 ⟨(some 34), (.bin .add (.t 33) (.c (.int .i64 1))), none⟩,
                 ⟨(some 35), (.sliceS (.t 31) (some (.t 32)) (some (.t 34))), none⟩,
                 ⟨(some 36), (.bin .add (.t 30) (.t 35)), none⟩,
                 ⟨(some 6), (.mov (.t 36)), none⟩])
               (.seq
                (.seq
                 (.ops [
                   ⟨(some 37), (.mov (.t 5)), none⟩,
                   ⟨(some 38), (.mov (.t 8)), none⟩,
                   ⟨(some 39), (.idx (.t 37) (.t 38)), none⟩,
                   ⟨(some 40), (.bin .eql (.t 39) (.c (.int .u8 32))), none⟩])
                 (.cond (.t 40)
                  (.ops [
                    ⟨(some 41), (.mov (.t 6)), none⟩,
                    ⟨(some 42), (.bin .add (.t 41) (.c (.str [32]))), none⟩,
                    ⟨(some 6), (.mov (.t 42)), none⟩])
                  .skip))
                (.seq
                 (.ops [
                   ⟨(some 43), (.mov (.t 5)), none⟩,
                   ⟨(some 44), (.mov (.t 8)), none⟩,
                   ⟨(some 45), (.idx (.t 43) (.t 44)), none⟩,
                   ⟨(some 46), (.bin .eql (.t 45) (.c (.int .u8 10))), none⟩,
                   ⟨(some 47), (.mov (.t 46)), none⟩,
                   ⟨(some 48), (.mov (.t 7)), (some (47, true))⟩,
                   ⟨(some 49), (.mov (.t 1)), (some (47, true))⟩,
                   ⟨(some 50), (.len (.t 49)), (some (47, true))⟩,
                   ⟨(some 51), (.bin .lss (.t 48) (.t 50)), (some (47, true))⟩,
                   ⟨(some 52), (.pick (.t 47) (.t 51) (.c (.bool false))), none⟩,
                   ⟨(some 53), (.mov (.t 52)), none⟩,
                   ⟨(some 54), (.mov (.t 7)), (some (53, true))⟩,
                   ⟨(some 55), (.bin .lss (.t 54) (.c (.int .i64 8))), (some (53, true))⟩,
                   ⟨(some 56), (.pick (.t 53) (.t 55) (.c (.bool false))), none⟩])
                 (.cond (.t 56)
                  (.seq
                   (.ops [
                     ⟨(some 57), (.mov (.t 6)), none⟩,
                     ⟨(some 58), (.bin .add (.t 57) (.c (.str [32, 32, 35]))), none⟩,
                     ⟨(some 59), (.mov (.t 1)), none⟩,
                     ⟨(some 60), (.mov (.t 7)), none⟩,
                     ⟨(some 61), (.idxS 1 (.t 59) (.t 60)), none⟩,
                     ⟨(some 62), (.load1 (.t 61)), none⟩,
                     ⟨(some 63), (.call (.f 11) [(.t 62)]), none⟩,
                     ⟨(some 64), (.bin .add (.t 58) (.t 63)), none⟩,
                     ⟨(some 65), (.bin .add (.t 64) (.c (.str [10, 32, 10]))), none⟩,
                     ⟨(some 6), (.mov (.t 65)), none⟩])
                   (.ops [
                     ⟨(some 66), (.mov (.t 7)), none⟩,
                     ⟨(some 67), (.bin .add (.t 66) (.c (.int .i64 1))), none⟩,
                     ⟨(some 7), (.mov (.t 67)), none⟩]))
                  .skip)))))
             (.ops [
               ⟨(some 28), (.mov (.t 8)), none⟩,
               ⟨(some 29), (.bin .add (.t 28) (.c (.int .i64 1))), none⟩,
               ⟨(some 8), (.mov (.t 29)), none⟩]))))))
        (.seq
         (.ops [
           ⟨(some 69), (.mov (.t 6)), none⟩,
           ⟨(some 70), (.bin .add (.c (.str [32, 32, 10])) (.t 69)), none⟩,
           ⟨(some 71), (.call (.f 9) [(.t 70)]), none⟩,
           ⟨(some 68), (.mov (.t 71)), none⟩,
           ⟨(some 72), (.ext (.t 68) 0), none⟩,
           ⟨(some 73), (.ext (.t 68) 1), none⟩,
           ⟨(some 74), (.ext (.t 68) 2), none⟩,
           ⟨(some 9), (.alloc [(.str []), .nsl]), none⟩,
           ⟨none, (.store 2 (.t 9) (.t 72)), none⟩,
           ⟨(some 10), (.mov (.t 73)), none⟩,
           ⟨(some 11), (.mov (.t 74)), none⟩])
         (.seq
          (.ops [
            ⟨(some 75), (.mov (.t 11)), none⟩,
            ⟨(some 76), (.bin .eql (.t 75) (.c (.int .i64 0))), none⟩,
            ⟨(some 77), (.mov (.t 76)), none⟩,
            ⟨(some 78), (.loadN 2 (.t 9)), (some (77, true))⟩,
            ⟨(some 79), (.loadN 2 (.t 2)), (some (77, true))⟩,
            ⟨(some 80), (.call (.f 10) [(.t 78), (.t 79)]), (some (77, true))⟩,
            ⟨(some 81), (.pick (.t 77) (.t 80) (.c (.bool false))), none⟩,
            ⟨(some 82), (.mov (.t 81)), none⟩,
            ⟨(some 83), (.call (.f 8) []), (some (82, true))⟩,
            ⟨(some 84), (.pick (.t 82) (.t 83) (.c (.bool false))), none⟩,
            ⟨(some 4), (.mov (.t 84)), none⟩])
          .ret)))))))))

section
variable {E : Env}
theorem take_no10 {r : List UInt8} {i : Nat} (h : i < r.length) (b : UInt8) (hb : r.getD i 0 = b) : (r.take (i + 1)).filter (fun b => !decide (b = 10)) = (r.take i).filter (fun b => !decide (b = 10)) ++ (if b = 10 then [] else [b]) := by
  rw [List.take_add_one, List.getElem?_eq_getElem h, List.filter_append]
  have : r[i] = b := by rw [← hb, List.getD_eq_getElem?_getD, List.getElem?_eq_getElem h]; rfl
  rw [this]
  congr 1
  by_cases hb : b = 10 <;> simp [hb]
theorem one_byte {r : List UInt8} {i : Nat} (h : i < r.length) : (r.take (i + 1)).drop i = [r.getD i 0] := by
  rw [List.take_add_one, List.getD_eq_getElem?_getD, List.getElem?_eq_getElem h]
  exact List.drop_left' (by rw [List.length_take]; omega)
theorem plain_pure (hP : E.P = Tryz.prog) (r : List UInt8) (hr : r.length ≤ 9223372036854775807) : XPure E 11 [.str r] (.str (plainS r)) := by
  refine xpure1 (n := Tryz.f11.ntmps) (c := y11) (t := 2) (by rw [hP]; rfl) (by rw [hP]; kernel_rfl) (by decide) (Nat.le_of_ble_eq_true rfl) ?_
  generalize hρ : entry _ = ρ
  have h0 : ρ 0 = .str r := by rw [← hρ]; rfl
  clear hρ
  unfold y11
  simp only [h0, go_sem, Nat.reduceEqDiff, reduceIte, Int.reduceEq, Int.reduceLT, Int.reduceLE, Nat.reduceAdd, Nat.reduceLT, Nat.reduceLeDiff, Int.reduceToNat, Int.reduceSub, Int.reduceAdd, Int.reduceNeg]
  refine s_loop (fun n ρ L => ∃ i : Nat, i ≤ r.length ∧ i ≤ 40 ∧ n = 40 - i ∧ L = [] ∧ ρ 0 = .str r ∧ ρ 3 = .str ((r.take i).filter fun b => !decide (b = 10)) ∧ ρ 4 = .int .i64 i)
    ⟨0, Nat.zero_le _, by omega, rfl, rfl, by simp only [h0, go_sem, Nat.reduceEqDiff, reduceIte, Int.reduceEq, Int.reduceLT, Int.reduceLE, Nat.reduceAdd, Nat.reduceLT, Nat.reduceLeDiff, Int.reduceToNat, Int.reduceSub, Int.reduceAdd, Int.reduceNeg], by simp only [go_sem, Nat.reduceEqDiff, reduceIte, Int.reduceEq, Int.reduceLT, Int.reduceLE, Nat.reduceAdd, Nat.reduceLT, Nat.reduceLeDiff, Int.reduceToNat, Int.reduceSub, Int.reduceAdd, Int.reduceNeg]; try rfl, by simp only [go_sem, Nat.reduceEqDiff, reduceIte, Int.reduceEq, Int.reduceLT, Int.reduceLE, Nat.reduceAdd, Nat.reduceLT, Nat.reduceLeDiff, Int.reduceToNat, Int.reduceSub, Int.reduceAdd, Int.reduceNeg]; try rfl⟩ ?_
  clear h0 ρ
  rintro n ρ L ⟨i, hi, hi40, rfl, rfl, h0, h3, h4⟩
  simp only [h0, h3, h4, go_sem, Nat.reduceEqDiff, reduceIte, Int.reduceEq, Int.reduceLT, Int.reduceLE, Nat.reduceAdd, Nat.reduceLT, Nat.reduceLeDiff, Int.reduceToNat, Int.reduceSub, Int.reduceAdd, Int.reduceNeg]
  refine s_mg (by simp only [h0, h3, h4, go_sem, Nat.reduceEqDiff, reduceIte, Int.reduceEq, Int.reduceLT, Int.reduceLE, Nat.reduceAdd, Nat.reduceLT, Nat.reduceLeDiff, Int.reduceToNat, Int.reduceSub, Int.reduceAdd, Int.reduceNeg]; try rfl) ?_; simp only [cut_g, cut_t, cut_none, cut_out, memN_cons, memN_nil, Nat.reduceEqDiff, reduceIte, List.nil_append, List.cons_append, not_false_eq_true]; refine ex_merge rfl (by simp only [h0, h3, h4, go_sem, Nat.reduceEqDiff, reduceIte, Int.reduceEq, Int.reduceLT, Int.reduceLE, Nat.reduceAdd, Nat.reduceLT, Nat.reduceLeDiff, Int.reduceToNat, Int.reduceSub, Int.reduceAdd, Int.reduceNeg]) (by intro hb; simp only [hb, h0, h3, h4, go_sem, Nat.reduceEqDiff, reduceIte, Int.reduceEq, Int.reduceLT, Int.reduceLE, Nat.reduceAdd, Nat.reduceLT, Nat.reduceLeDiff, Int.reduceToNat, Int.reduceSub, Int.reduceAdd, Int.reduceNeg]; first | exact rfl | exact ⟨rfl, rfl⟩) (fun vs => ?_); simp only [h0, h3, h4, go_sem, Nat.reduceEqDiff, reduceIte, Int.reduceEq, Int.reduceLT, Int.reduceLE, Nat.reduceAdd, Nat.reduceLT, Nat.reduceLeDiff, Int.reduceToNat, Int.reduceSub, Int.reduceAdd, Int.reduceNeg]
  refine s_cond (b := decide ((i : Int) < (r.length : Int)) && decide ((i : Int) < 40)) (by simp only [h0, h3, h4, go_sem, Nat.reduceEqDiff, reduceIte, Int.reduceEq, Int.reduceLT, Int.reduceLE, Nat.reduceAdd, Nat.reduceLT, Nat.reduceLeDiff, Int.reduceToNat, Int.reduceSub, Int.reduceAdd, Int.reduceNeg]; try rfl) ?_ ?_ <;> intro hb <;> simp only [hb, h0, h3, h4, go_sem, Nat.reduceEqDiff, reduceIte, Int.reduceEq, Int.reduceLT, Int.reduceLE, Nat.reduceAdd, Nat.reduceLT, Nat.reduceLeDiff, Int.reduceToNat, Int.reduceSub, Int.reduceAdd, Int.reduceNeg]
  · simp only [Bool.and_eq_true, decide_eq_true_eq] at hb
    have hi' : i < r.length := by omega
    have htk := take_no10 hi' _ rfl
    have hsl := one_byte hi'
    have hwr : IntKind.i64.wrap ((i : Int) + 1) = ((i + 1 : Nat) : Int) := by rw [wrap64 (by omega) (by omega)]; rfl
    have hfl : ((r.take i).filter fun b => !decide (b = 10)).length ≤ 40 := Nat.le_trans (List.length_filter_le ..) (by rw [List.length_take]; omega)
    refine ⟨by omega, ?_⟩
    generalize r.getD i 0 = b at *
    have hb10 : (((b.toNat : Int) = 10)) = (b = 10) := propext ⟨fun h => UInt8.toNat_inj.1 (by have : (10 : UInt8).toNat = 10 := rfl; omega), fun h => by rw [h]; rfl⟩
    refine s_cond (b := !decide (b = 10)) (by simp only [h0, h3, h4, hb10, go_sem, Nat.reduceEqDiff, reduceIte, Int.reduceEq, Int.reduceLT, Int.reduceLE, Nat.reduceAdd, Nat.reduceLT, Nat.reduceLeDiff, Int.reduceToNat, Int.reduceSub, Int.reduceAdd, Int.reduceNeg]; try rfl) ?_ ?_ <;> intro hc <;> simp only [hc, h0, h3, h4, hwr, hsl, go_sem, Nat.reduceEqDiff, reduceIte, Int.reduceEq, Int.reduceLT, Int.reduceLE, Nat.reduceAdd, Nat.reduceLT, Nat.reduceLeDiff, Int.reduceToNat, Int.reduceSub, Int.reduceAdd, Int.reduceNeg]
    · have hne : ¬ b = 10 := by simpa using hc
      rw [if_neg hne] at htk
      exact ⟨by omega, by omega, by omega, 40 - (i + 1), by omega, i + 1, by omega, by omega, rfl, by rw [htk], rfl⟩
    · have he : b = 10 := by simpa using hc
      rw [if_pos he, List.append_nil] at htk
      exact ⟨40 - (i + 1), by omega, i + 1, by omega, by omega, rfl, by rw [htk], rfl⟩
  · have hii : r.take i = r.take 40 := by
      simp only [Bool.and_eq_false_iff, decide_eq_false_iff_not] at hb
      by_cases h40 : i = 40
      · rw [h40]
      · have : i = r.length := by omega
        rw [List.take_of_length_le (by omega), List.take_of_length_le (by omega)]
    rw [hii]; rfl

/-- The law's loop: i bytes are done, k remarks are used. -/
def SpSt (c : DefD) (s : List UInt8) (xs : List (List UInt8)) (i k : Nat) (ρ : Rho) (L : List Blk) : Prop := ∃ t : List UInt8, i ≤ s.length ∧ k ≤ xs.length ∧ k ≤ 8 ∧ t.length ≤ 2 * i + 46 * k ∧ t ++ spGo ((xs.take 8).drop k) (s.drop i) = spGo (xs.take 8) s ∧
  L = [.cells 2 [[.str c.name, .isl (nodeRows c.nodes)]]] ∧ ρ 1 = .isl (strRows xs) ∧ ρ 2 = .ptr 0 0 0 ∧ ρ 5 = .str s ∧ ρ 6 = .str t ∧ ρ 7 = .int .i64 k ∧ ρ 8 = .int .i64 i

theorem spaces_pure (hP : E.P = Tryz.prog) {m : Int} (hm : E.gl 0 = some [.int .i64 m]) (ht : ∀ w, E.G w → Lib.TabIs Tryz.prog w "internal/strconv.uint64pow10" .u64 Lib.pow10Tab) (d : DefD) (hd : d.nodes.length ≤ 9223372036854775807) (ha : ∀ n ∈ d.nodes, n.after.length ≤ 9223372036854775807) (hok : d.ok)
    (xs : List (List UInt8)) (hx : xs.length ≤ 9223372036854775807) (hxl : ∀ x ∈ xs, x.length ≤ 9223372036854775807) : XPure E 4 [d.iv, .isl (strRows xs)] (.bool true) := by
  refine xpure1 (n := Tryz.f4.ntmps) (c := y4) (t := 4) (by rw [hP]; rfl) (by rw [hP]; kernel_rfl) (by decide) (Nat.le_of_ble_eq_true rfl) ?_
  generalize hρ : entry _ = ρ
  have h0 : ρ 0 = .agg [.str d.name, .isl (nodeRows d.nodes)] := by rw [← hρ]; rfl
  have h1 : ρ 1 = .isl (strRows xs) := by rw [← hρ]; rfl
  clear hρ
  unfold y4
  simp only [h0, h1, go_sem, Nat.reduceEqDiff, reduceIte, Int.reduceEq, Int.reduceLT, Int.reduceLE, Nat.reduceAdd, Nat.reduceLT, Nat.reduceLeDiff, Int.reduceToNat, Int.reduceSub, Int.reduceAdd, Int.reduceNeg]
  refine xcall_pure (args' := [d.iv]) rfl (cut_pure (E := E.noPan) hP d hd ha) rfl ?_
  have hcl := cut_len d
  have hca : ∀ n ∈ d.cut.nodes, n.after.length ≤ 10 := fun n hn => cut_after hn
  have hco := cut_ok hok
  generalize d.cut = c at *
  simp only [h0, h1, DefD.iv, go_sem, Nat.reduceEqDiff, reduceIte, Int.reduceEq, Int.reduceLT, Int.reduceLE, Nat.reduceAdd, Nat.reduceLT, Nat.reduceLeDiff, Int.reduceToNat, Int.reduceSub, Int.reduceAdd, Int.reduceNeg]
  refine xcall_pure (args' := [c.iv]) rfl (dagText_pure (E := E.noPan) hP hm ht c (by omega) hco hca) rfl ?_
  simp only [h0, h1, go_sem, Nat.reduceEqDiff, reduceIte, Int.reduceEq, Int.reduceLT, Int.reduceLE, Nat.reduceAdd, Nat.reduceLT, Nat.reduceLeDiff, Int.reduceToNat, Int.reduceSub, Int.reduceAdd, Int.reduceNeg]
  have hwk := wakes_pure (E := E.noPan) hP
  have e1 : (([] : List UInt8) = []) = True := eq_self _
  by_cases hc : c.check.2 = 0
  case neg =>
    have hS : c.textS = [] := by unfold DefD.textS; rw [if_neg hc]
    simp only [h0, h1, hS, e1, decide_true, Bool.not_true, go_sem, Nat.reduceEqDiff, reduceIte, Int.reduceEq, Int.reduceLT, Int.reduceLE, Nat.reduceAdd, Nat.reduceLT, Nat.reduceLeDiff, Int.reduceToNat, Int.reduceSub, Int.reduceAdd, Int.reduceNeg]
    refine xcall_pure (args' := []) rfl hwk rfl ?_
    simp only [h0, go_sem, Nat.reduceEqDiff, reduceIte, Int.reduceEq, Int.reduceLT, Int.reduceLE, Nat.reduceAdd, Nat.reduceLT, Nat.reduceLeDiff, Int.reduceToNat, Int.reduceSub, Int.reduceAdd, Int.reduceNeg]
    rfl
  have hS : c.textS = c.text := by unfold DefD.textS; rw [if_pos hc]
  rw [hS]
  have en : (c.text = []) = False := eq_false (by unfold DefD.text DefD.hdr hdrW; simp)
  by_cases hl : c.text.length ≤ 6000
  case neg =>
    have e6 : ((6000 : Int) < (c.text.length : Int)) = True := eq_true (by omega)
    simp only [h0, h1, en, e6, go_sem, Nat.reduceEqDiff, reduceIte, Int.reduceEq, Int.reduceLT, Int.reduceLE, Nat.reduceAdd, Nat.reduceLT, Nat.reduceLeDiff, Int.reduceToNat, Int.reduceSub, Int.reduceAdd, Int.reduceNeg]
    refine xcall_pure (args' := []) rfl hwk rfl ?_
    simp only [h0, go_sem, Nat.reduceEqDiff, reduceIte, Int.reduceEq, Int.reduceLT, Int.reduceLE, Nat.reduceAdd, Nat.reduceLT, Nat.reduceLeDiff, Int.reduceToNat, Int.reduceSub, Int.reduceAdd, Int.reduceNeg]
    rfl
  have e6 : ((6000 : Int) < (c.text.length : Int)) = False := eq_false (by omega)
  have hpr := parse_spaces hc (xs.take 8)
  have hdf := def_same (E := E.noPan) hP c (by omega) (fun n hn => by have := hca n hn; omega)
  generalize hst : c.text = s at *
  simp only [h0, h1, en, e6, go_sem, Nat.reduceEqDiff, reduceIte, Int.reduceEq, Int.reduceLT, Int.reduceLE, Nat.reduceAdd, Nat.reduceLT, Nat.reduceLeDiff, Int.reduceToNat, Int.reduceSub, Int.reduceAdd, Int.reduceNeg]
  refine s_loop (fun n' ρ L => ∃ i k, n' = s.length - i ∧ SpSt c s xs i k ρ L)
    ⟨0, 0, rfl, [], Nat.zero_le _, Nat.zero_le _, by omega, by simp, rfl, rfl, by simp only [h1, go_sem, Nat.reduceEqDiff, reduceIte, Int.reduceEq, Int.reduceLT, Int.reduceLE, Nat.reduceAdd, Nat.reduceLT, Nat.reduceLeDiff, Int.reduceToNat, Int.reduceSub, Int.reduceAdd, Int.reduceNeg], by simp only [go_sem, Nat.reduceEqDiff, reduceIte, Int.reduceEq, Int.reduceLT, Int.reduceLE, Nat.reduceAdd, Nat.reduceLT, Nat.reduceLeDiff, Int.reduceToNat, Int.reduceSub, Int.reduceAdd, Int.reduceNeg]; try rfl, by simp only [go_sem, Nat.reduceEqDiff, reduceIte, Int.reduceEq, Int.reduceLT, Int.reduceLE, Nat.reduceAdd, Nat.reduceLT, Nat.reduceLeDiff, Int.reduceToNat, Int.reduceSub, Int.reduceAdd, Int.reduceNeg], by simp only [go_sem, Nat.reduceEqDiff, reduceIte, Int.reduceEq, Int.reduceLT, Int.reduceLE, Nat.reduceAdd, Nat.reduceLT, Nat.reduceLeDiff, Int.reduceToNat, Int.reduceSub, Int.reduceAdd, Int.reduceNeg]; try rfl, by simp only [go_sem, Nat.reduceEqDiff, reduceIte, Int.reduceEq, Int.reduceLT, Int.reduceLE, Nat.reduceAdd, Nat.reduceLT, Nat.reduceLeDiff, Int.reduceToNat, Int.reduceSub, Int.reduceAdd, Int.reduceNeg]; try rfl, by simp only [go_sem, Nat.reduceEqDiff, reduceIte, Int.reduceEq, Int.reduceLT, Int.reduceLE, Nat.reduceAdd, Nat.reduceLT, Nat.reduceLeDiff, Int.reduceToNat, Int.reduceSub, Int.reduceAdd, Int.reduceNeg]; try rfl⟩ ?_
  clear h0 h1 ρ
  rintro n' ρ L ⟨i, k, rfl, t, hi, hk, hk8, htl, htx, rfl, h1, h2, h5, h6, h7, h8⟩
  simp only [h1, h2, h5, h6, h7, h8, go_sem, Nat.reduceEqDiff, reduceIte, Int.reduceEq, Int.reduceLT, Int.reduceLE, Nat.reduceAdd, Nat.reduceLT, Nat.reduceLeDiff, Int.reduceToNat, Int.reduceSub, Int.reduceAdd, Int.reduceNeg]
  refine s_cond (b := decide ((i : Int) < (s.length : Int))) (by simp only [h1, h2, h5, h6, h7, h8, go_sem, Nat.reduceEqDiff, reduceIte, Int.reduceEq, Int.reduceLT, Int.reduceLE, Nat.reduceAdd, Nat.reduceLT, Nat.reduceLeDiff, Int.reduceToNat, Int.reduceSub, Int.reduceAdd, Int.reduceNeg]; try rfl) ?_ ?_ <;> intro hb <;> simp only [hb, h1, h2, h5, h6, h7, h8, go_sem, Nat.reduceEqDiff, reduceIte, Int.reduceEq, Int.reduceLT, Int.reduceLE, Nat.reduceAdd, Nat.reduceLT, Nat.reduceLeDiff, Int.reduceToNat, Int.reduceSub, Int.reduceAdd, Int.reduceNeg]
  · rw [decide_eq_true_eq] at hb
    have hi' : i < s.length := by omega
    have hwr : IntKind.i64.wrap ((i : Int) + 1) = ((i + 1 : Nat) : Int) := by rw [wrap64 (by omega) (by omega)]; rfl
    have hsl := one_byte hi'
    simp only [h1, h2, h5, h6, h7, h8, hwr, go_sem, Nat.reduceEqDiff, reduceIte, Int.reduceEq, Int.reduceLT, Int.reduceLE, Nat.reduceAdd, Nat.reduceLT, Nat.reduceLeDiff, Int.reduceToNat, Int.reduceSub, Int.reduceAdd, Int.reduceNeg]
    rw [hsl]
    have hdr : s.drop i = s.getD i 0 :: s.drop (i + 1) := by rw [List.getD_eq_getElem?_getD, List.getElem?_eq_getElem hi']; exact List.drop_eq_getElem_cons hi'
    rw [hdr] at htx
    refine ⟨by omega, by omega, by simp only [List.length_cons, List.length_nil]; omega, by omega, ?_⟩
    generalize hbe : s.getD i 0 = b at *
    generalize hrr : s.drop (i + 1) = r at *
    have h32 : (((b.toNat : Int) = 32)) = (b = 32) := propext ⟨fun h => UInt8.toNat_inj.1 (by have : (32 : UInt8).toNat = 32 := rfl; omega), fun h => by rw [h]; rfl⟩
    have h10 : (((b.toNat : Int) = 10)) = (b = 10) := propext ⟨fun h => UInt8.toNat_inj.1 (by have : (10 : UInt8).toNat = 10 := rfl; omega), fun h => by rw [h]; rfl⟩
    have hdl : (dblB b).length ≤ 2 := by unfold dblB; split <;> simp
    refine xcut_norm (fun ρ' L' => L' = [.cells 2 [[.str c.name, .isl (nodeRows c.nodes)]]] ∧ ρ' 1 = .isl (strRows xs) ∧ ρ' 2 = .ptr 0 0 0 ∧ ρ' 5 = .str s ∧ ρ' 6 = .str (t ++ dblB b) ∧ ρ' 7 = .int .i64 k ∧ ρ' 8 = .int .i64 i) ?_ (fun ρ' L' h => ?_)
    · refine s_cond (b := decide (b = 32)) (by simp only [h1, h2, h5, h6, h7, h8, h32, go_sem, Nat.reduceEqDiff, reduceIte, Int.reduceEq, Int.reduceLT, Int.reduceLE, Nat.reduceAdd, Nat.reduceLT, Nat.reduceLeDiff, Int.reduceToNat, Int.reduceSub, Int.reduceAdd, Int.reduceNeg]; try rfl) ?_ ?_ <;> intro hc <;> simp only [hc, h1, h2, h5, h6, h7, h8, go_sem, Nat.reduceEqDiff, reduceIte, Int.reduceEq, Int.reduceLT, Int.reduceLE, Nat.reduceAdd, Nat.reduceLT, Nat.reduceLeDiff, Int.reduceToNat, Int.reduceSub, Int.reduceAdd, Int.reduceNeg]
      · have he : b = 32 := by simpa using hc
        subst he
        refine ⟨by rw [List.length_append]; show t.length + 1 ≤ _; omega, ?_⟩
        unfold dblB; rw [if_pos rfl]; simp
      · have he : ¬ b = 32 := by simpa using hc
        unfold dblB; rw [if_neg he]
    clear h1 h2 h5 h6 h7 h8
    obtain ⟨rfl, h1, h2, h5, h6, h7, h8⟩ := h
    simp only [h1, h2, h5, h6, h7, h8, hbe, h10, strRows_len, go_sem, Nat.reduceEqDiff, reduceIte, Int.reduceEq, Int.reduceLT, Int.reduceLE, Nat.reduceAdd, Nat.reduceLT, Nat.reduceLeDiff, Int.reduceToNat, Int.reduceSub, Int.reduceAdd, Int.reduceNeg]
    refine ⟨by omega, ?_⟩
    refine s_mg (by simp only [h1, h2, h5, h6, h7, h8, strRows_len, go_sem, Nat.reduceEqDiff, reduceIte, Int.reduceEq, Int.reduceLT, Int.reduceLE, Nat.reduceAdd, Nat.reduceLT, Nat.reduceLeDiff, Int.reduceToNat, Int.reduceSub, Int.reduceAdd, Int.reduceNeg]; try rfl) ?_; simp only [cut_g, cut_t, cut_none, cut_out, memN_cons, memN_nil, Nat.reduceEqDiff, reduceIte, List.nil_append, List.cons_append, not_false_eq_true]; refine ex_merge rfl (by simp only [h1, h2, h5, h6, h7, h8, strRows_len, go_sem, Nat.reduceEqDiff, reduceIte, Int.reduceEq, Int.reduceLT, Int.reduceLE, Nat.reduceAdd, Nat.reduceLT, Nat.reduceLeDiff, Int.reduceToNat, Int.reduceSub, Int.reduceAdd, Int.reduceNeg]) (by intro hb; simp only [hb, h1, h2, h5, h6, h7, h8, strRows_len, go_sem, Nat.reduceEqDiff, reduceIte, Int.reduceEq, Int.reduceLT, Int.reduceLE, Nat.reduceAdd, Nat.reduceLT, Nat.reduceLeDiff, Int.reduceToNat, Int.reduceSub, Int.reduceAdd, Int.reduceNeg]; first | exact rfl | exact ⟨rfl, rfl⟩) (fun vs => ?_); simp only [h1, h2, h5, h6, h7, h8, strRows_len, go_sem, Nat.reduceEqDiff, reduceIte, Int.reduceEq, Int.reduceLT, Int.reduceLE, Nat.reduceAdd, Nat.reduceLT, Nat.reduceLeDiff, Int.reduceToNat, Int.reduceSub, Int.reduceAdd, Int.reduceNeg]
    refine s_mg (by simp only [h1, h2, h5, h6, h7, h8, go_sem, Nat.reduceEqDiff, reduceIte, Int.reduceEq, Int.reduceLT, Int.reduceLE, Nat.reduceAdd, Nat.reduceLT, Nat.reduceLeDiff, Int.reduceToNat, Int.reduceSub, Int.reduceAdd, Int.reduceNeg]; try rfl) ?_; simp only [cut_g, cut_t, cut_none, cut_out, memN_cons, memN_nil, Nat.reduceEqDiff, reduceIte, List.nil_append, List.cons_append, not_false_eq_true]; refine ex_merge rfl (by simp only [h1, h2, h5, h6, h7, h8, go_sem, Nat.reduceEqDiff, reduceIte, Int.reduceEq, Int.reduceLT, Int.reduceLE, Nat.reduceAdd, Nat.reduceLT, Nat.reduceLeDiff, Int.reduceToNat, Int.reduceSub, Int.reduceAdd, Int.reduceNeg]) (by intro hb; simp only [hb, h1, h2, h5, h6, h7, h8, go_sem, Nat.reduceEqDiff, reduceIte, Int.reduceEq, Int.reduceLT, Int.reduceLE, Nat.reduceAdd, Nat.reduceLT, Nat.reduceLeDiff, Int.reduceToNat, Int.reduceSub, Int.reduceAdd, Int.reduceNeg]; first | exact rfl | exact ⟨rfl, rfl⟩) (fun vs => ?_); simp only [h1, h2, h5, h6, h7, h8, go_sem, Nat.reduceEqDiff, reduceIte, Int.reduceEq, Int.reduceLT, Int.reduceLE, Nat.reduceAdd, Nat.reduceLT, Nat.reduceLeDiff, Int.reduceToNat, Int.reduceSub, Int.reduceAdd, Int.reduceNeg]
    refine s_cond (b := decide (b = 10) && decide ((k : Int) < (xs.length : Int)) && decide ((k : Int) < 8)) (by simp only [h1, h2, h5, h6, h7, h8, go_sem, Nat.reduceEqDiff, reduceIte, Int.reduceEq, Int.reduceLT, Int.reduceLE, Nat.reduceAdd, Nat.reduceLT, Nat.reduceLeDiff, Int.reduceToNat, Int.reduceSub, Int.reduceAdd, Int.reduceNeg]; try rfl) ?_ ?_ <;> intro hc <;> simp only [hc, h1, h2, h5, h6, h7, h8, strRows_len, rows_strs, go_sem, Nat.reduceEqDiff, reduceIte, Int.reduceEq, Int.reduceLT, Int.reduceLE, Nat.reduceAdd, Nat.reduceLT, Nat.reduceLeDiff, Int.reduceToNat, Int.reduceSub, Int.reduceAdd, Int.reduceNeg]
    · simp only [Bool.and_eq_true, decide_eq_true_eq] at hc
      obtain ⟨⟨he, hk1⟩, hk2⟩ := hc
      subst he
      have hk1' : k < xs.length := by omega
      have hsr := strRows_get hk1'
      have hmem : xs.getD k [] ∈ xs := by rw [List.getD_eq_getElem?_getD, List.getElem?_eq_getElem hk1']; exact List.getElem_mem _
      have hxd : (xs.take 8).drop k = xs.getD k [] :: (xs.take 8).drop (k + 1) := by
        have hlt : k < (xs.take 8).length := by rw [List.length_take]; omega
        rw [List.drop_eq_getElem_cons hlt, List.getElem_take, List.getD_eq_getElem?_getD, List.getElem?_eq_getElem hk1']; rfl
      have hxle := hxl _ hmem
      rw [hxd] at htx
      generalize xs.getD k [] = x at *
      simp only [h1, h2, h5, h6, h7, h8, rows_strs, hsr, go_sem, Nat.reduceEqDiff, reduceIte, Int.reduceEq, Int.reduceLT, Int.reduceLE, Nat.reduceAdd, Nat.reduceLT, Nat.reduceLeDiff, Int.reduceToNat, Int.reduceSub, Int.reduceAdd, Int.reduceNeg]
      have hpl := plain_len x
      have hd10 : dblB 10 = [10] := rfl
      have hwk1 : IntKind.i64.wrap ((k : Int) + 1) = ((k + 1 : Nat) : Int) := by rw [wrap64 (by omega) (by omega)]; rfl
      refine ⟨by rw [List.length_append, hd10]; show t.length + 1 ≤ _; omega, by omega, by omega, ?_⟩
      refine xcall_pure (args' := [.str x]) rfl (plain_pure (E := E.noPan) hP x hxle) rfl ?_
      simp only [h1, h2, h5, h6, h7, h8, hwk1, hwr, go_sem, Nat.reduceEqDiff, reduceIte, Int.reduceEq, Int.reduceLT, Int.reduceLE, Nat.reduceAdd, Nat.reduceLT, Nat.reduceLeDiff, Int.reduceToNat, Int.reduceSub, Int.reduceAdd, Int.reduceNeg]
      have hL : ∀ p : List UInt8, (t ++ dblB 10 ++ [32, 32, 35] ++ p).length = t.length + p.length + 4 := fun p => by simp [hd10]; omega
      have hL0 : (t ++ dblB 10 ++ [32, 32, 35]).length = t.length + 4 := by simp [hd10]
      refine ⟨by rw [hL0]; omega, by rw [hL]; omega, s.length - (i + 1), by omega, i + 1, k + 1, rfl, t ++ dblB 10 ++ [32, 32, 35] ++ plainS x ++ [10, 32, 10], by omega, by omega, by omega, ?_, ?_, rfl, by simp only [h1, go_sem, Nat.reduceEqDiff, reduceIte, Int.reduceEq, Int.reduceLT, Int.reduceLE, Nat.reduceAdd, Nat.reduceLT, Nat.reduceLeDiff, Int.reduceToNat, Int.reduceSub, Int.reduceAdd, Int.reduceNeg], by simp only [h2, go_sem, Nat.reduceEqDiff, reduceIte, Int.reduceEq, Int.reduceLT, Int.reduceLE, Nat.reduceAdd, Nat.reduceLT, Nat.reduceLeDiff, Int.reduceToNat, Int.reduceSub, Int.reduceAdd, Int.reduceNeg], by simp only [h5, go_sem, Nat.reduceEqDiff, reduceIte, Int.reduceEq, Int.reduceLT, Int.reduceLE, Nat.reduceAdd, Nat.reduceLT, Nat.reduceLeDiff, Int.reduceToNat, Int.reduceSub, Int.reduceAdd, Int.reduceNeg], by simp only [go_sem, Nat.reduceEqDiff, reduceIte, Int.reduceEq, Int.reduceLT, Int.reduceLE, Nat.reduceAdd, Nat.reduceLT, Nat.reduceLeDiff, Int.reduceToNat, Int.reduceSub, Int.reduceAdd, Int.reduceNeg], by simp only [go_sem, Nat.reduceEqDiff, reduceIte, Int.reduceEq, Int.reduceLT, Int.reduceLE, Nat.reduceAdd, Nat.reduceLT, Nat.reduceLeDiff, Int.reduceToNat, Int.reduceSub, Int.reduceAdd, Int.reduceNeg], by simp only [go_sem, Nat.reduceEqDiff, reduceIte, Int.reduceEq, Int.reduceLT, Int.reduceLE, Nat.reduceAdd, Nat.reduceLT, Nat.reduceLeDiff, Int.reduceToNat, Int.reduceSub, Int.reduceAdd, Int.reduceNeg]⟩
      · rw [List.length_append, hL]; show t.length + (plainS x).length + 4 + 3 ≤ _; omega
      · rw [← htx, hrr, spGo, if_pos rfl]; simp [insS, hd10]
    · refine ⟨s.length - (i + 1), by omega, i + 1, k, rfl, t ++ dblB b, by omega, hk, hk8, by rw [List.length_append]; omega, ?_, rfl, by simp only [h1, go_sem, Nat.reduceEqDiff, reduceIte, Int.reduceEq, Int.reduceLT, Int.reduceLE, Nat.reduceAdd, Nat.reduceLT, Nat.reduceLeDiff, Int.reduceToNat, Int.reduceSub, Int.reduceAdd, Int.reduceNeg], by simp only [h2, go_sem, Nat.reduceEqDiff, reduceIte, Int.reduceEq, Int.reduceLT, Int.reduceLE, Nat.reduceAdd, Nat.reduceLT, Nat.reduceLeDiff, Int.reduceToNat, Int.reduceSub, Int.reduceAdd, Int.reduceNeg], by simp only [h5, go_sem, Nat.reduceEqDiff, reduceIte, Int.reduceEq, Int.reduceLT, Int.reduceLE, Nat.reduceAdd, Nat.reduceLT, Nat.reduceLeDiff, Int.reduceToNat, Int.reduceSub, Int.reduceAdd, Int.reduceNeg], by simp only [h6, go_sem, Nat.reduceEqDiff, reduceIte, Int.reduceEq, Int.reduceLT, Int.reduceLE, Nat.reduceAdd, Nat.reduceLT, Nat.reduceLeDiff, Int.reduceToNat, Int.reduceSub, Int.reduceAdd, Int.reduceNeg], by simp only [h7, go_sem, Nat.reduceEqDiff, reduceIte, Int.reduceEq, Int.reduceLT, Int.reduceLE, Nat.reduceAdd, Nat.reduceLT, Nat.reduceLeDiff, Int.reduceToNat, Int.reduceSub, Int.reduceAdd, Int.reduceNeg], by simp only [hwr, go_sem, Nat.reduceEqDiff, reduceIte, Int.reduceEq, Int.reduceLT, Int.reduceLE, Nat.reduceAdd, Nat.reduceLT, Nat.reduceLeDiff, Int.reduceToNat, Int.reduceSub, Int.reduceAdd, Int.reduceNeg]⟩
      rw [← htx, hrr, List.append_assoc]
      congr 1
      have hc' : b = 10 → (xs.take 8).drop k = [] := by
        intro hb10
        subst hb10
        simp only [Bool.and_eq_false_iff, decide_eq_false_iff_not, not_true, false_or] at hc
        refine List.drop_eq_nil_of_le ?_
        rw [List.length_take]
        omega
      by_cases hb10 : b = 10
      · rw [hc' hb10]; rfl
      · exact (spGo_app [b] _ r (by intro y hy; rw [List.mem_singleton] at hy; rw [hy]; exact hb10)).symm.trans rfl |>.symm ▸ (by simp [dbl, spGo_app [b] _ r (by intro y hy; rw [List.mem_singleton] at hy; rw [hy]; exact hb10)])
  · rw [decide_eq_false_iff_not] at hb
    have hie : i = s.length := by omega
    have hdn : s.drop i = [] := by rw [hie]; exact List.drop_length
    rw [hdn, spGo_nil, List.append_nil] at htx
    have htx2 : [32, 32, 10] ++ spGo (xs.take 8) s = 32 :: 32 :: 10 :: t := by rw [← htx]; rfl
    rw [htx2] at hpr
    obtain ⟨g1, g2, g3⟩ := lines_bound (32 :: 32 :: 10 :: t) []
    rw [List.length_nil] at g2
    simp only [List.length_cons] at g1 g2
    have hpp := parse_pure (E := E.noPan) hP hm c hc hca hco (32 :: 32 :: 10 :: t) (by simp only [List.length_cons]; omega) (by rw [splitL_lines]; exact g3) (by rw [splitL_lines]; omega) (by rw [splitL_lines]; intro l hl'; have := g2 l hl'; omega) hpr
    refine ⟨by omega, ?_⟩
    refine xcall_pure (args' := [_]) rfl hpp rfl ?_
    have e0 : ((0 : Int) = 0) = True := eq_self _
    simp only [h1, h2, h5, h6, h7, h8, DefD.iv, e0, decide_true, go_sem, Nat.reduceEqDiff, reduceIte, Int.reduceEq, Int.reduceLT, Int.reduceLE, Nat.reduceAdd, Nat.reduceLT, Nat.reduceLeDiff, Int.reduceToNat, Int.reduceSub, Int.reduceAdd, Int.reduceNeg]
    refine xcall_pure (args' := [c.iv, c.iv]) rfl hdf rfl ?_
    simp only [h1, h2, h5, h6, h7, h8, DefD.iv, e0, decide_true, go_sem, Nat.reduceEqDiff, reduceIte, Int.reduceEq, Int.reduceLT, Int.reduceLE, Nat.reduceAdd, Nat.reduceLT, Nat.reduceLeDiff, Int.reduceToNat, Int.reduceSub, Int.reduceAdd, Int.reduceNeg]
    refine xcall_pure (args' := []) rfl hwk rfl ?_
    simp only [h1, h2, h5, h6, h7, h8, go_sem, Nat.reduceEqDiff, reduceIte, Int.reduceEq, Int.reduceLT, Int.reduceLE, Nat.reduceAdd, Nat.reduceLT, Nat.reduceLeDiff, Int.reduceToNat, Int.reduceSub, Int.reduceAdd, Int.reduceNeg]
    rfl
end
end Go.X.TryzW
end
