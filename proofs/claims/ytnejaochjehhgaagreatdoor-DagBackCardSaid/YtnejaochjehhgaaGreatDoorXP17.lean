/- Parts of the proof: Xzlines, Xzread, Xzback. -/
import Derived.Test.YtnejaochjehhgaaGreatDoorXP16
import Derived.Lib.SplitLaws
import Derived.Lib.MapLaws
import Derived.Lib.FieldsP
set_option linter.unusedVariables false
set_option linter.unusedSimpArgs false
set_option linter.unusedSectionVars false
section
/- Lines and words of a text, byte by byte. -/
namespace Go.X.TryzW
open Go Go.X
set_option maxRecDepth 100000

/-! ### Lines -/
def linesGo (cur : List UInt8) : List UInt8 → List (List UInt8)
  | [] => [cur]
  | b :: r => if b = 10 then cur :: linesGo [] r else linesGo (cur ++ [b]) r

theorem index_ten : ∀ (a r : List UInt8), (∀ b ∈ a, b ≠ 10) → Lib.index (a ++ 10 :: r) [10] = a.length
  | [], r, _ => by simp [Lib.index]
  | b :: a, r, h => by
    have hb : b ≠ 10 := h b List.mem_cons_self
    have ih := index_ten a r fun x hx => h x (List.mem_cons_of_mem _ hx)
    rw [List.cons_append, Lib.index]
    have hp : ([10] : List UInt8).isPrefixOf (b :: (a ++ 10 :: r)) = false := by
      simp only [List.isPrefixOf, Bool.and_eq_false_iff]
      left
      rw [beq_eq_false_iff_ne]
      exact fun h => hb h.symm
    rw [hp, ih]
    simp

theorem linesGo_app : ∀ (a cur r : List UInt8), (∀ b ∈ a, b ≠ 10) → linesGo cur (a ++ 10 :: r) = (cur ++ a) :: linesGo [] r
  | [], cur, r, _ => by simp [linesGo]
  | b :: a, cur, r, h => by
    have hb : b ≠ 10 := h b List.mem_cons_self
    rw [List.cons_append, linesGo, if_neg hb, linesGo_app a _ r fun x hx => h x (List.mem_cons_of_mem _ hx)]
    simp
theorem linesGo_last : ∀ (a cur : List UInt8), (∀ b ∈ a, b ≠ 10) → linesGo cur a = [cur ++ a]
  | [], cur, _ => by simp [linesGo]
  | b :: a, cur, h => by
    have hb : b ≠ 10 := h b List.mem_cons_self
    rw [linesGo, if_neg hb, linesGo_last a _ fun x hx => h x (List.mem_cons_of_mem _ hx)]
    simp
theorem ten_cut : ∀ s : List UInt8, (∀ b ∈ s, b ≠ 10) ∨ ∃ a r, s = a ++ 10 :: r ∧ ∀ b ∈ a, b ≠ 10
  | [] => .inl (by simp)
  | b :: s => by
    by_cases hb : b = 10
    · exact .inr ⟨[], s, by rw [hb]; rfl, by simp⟩
    · rcases ten_cut s with h | ⟨a, r, rfl, h⟩
      · left
        intro x hx
        rcases List.mem_cons.1 hx with rfl | hx
        · exact hb
        · exact h x hx
      · refine .inr ⟨b :: a, r, rfl, ?_⟩
        intro x hx
        rcases List.mem_cons.1 hx with rfl | hx
        · exact hb
        · exact h x hx
theorem splitK_lines : ∀ (n : Nat) (s : List UInt8), s.length ≤ n → Lib.splitK [10] 0 (Lib.count s [10]) s = linesGo [] s := by
  intro n
  induction n with
  | zero =>
    intro s h
    have : s = [] := List.eq_nil_of_length_eq_zero (by omega)
    subst this
    rw [Lib.count_one]; rfl
  | succ n ih =>
    intro s h
    rcases ten_cut s with hs | ⟨a, r, rfl, ha⟩
    · rw [linesGo_last _ _ hs, Lib.count_one, List.count_eq_zero_of_not_mem (fun hm => hs 10 hm rfl)]
      rfl
    · have hc : Lib.count (a ++ 10 :: r) [10] = Lib.count r [10] + 1 := by
        rw [Lib.count_one, Lib.count_one, List.count_append, List.count_cons_self, List.count_eq_zero_of_not_mem (fun hm => ha 10 hm rfl)]; omega
      rw [hc, linesGo_app _ _ _ ha, Lib.splitK, index_ten a r ha]
      have hne : ((a.length : Int) == -1) = false := by rw [beq_eq_false_iff_ne]; omega
      rw [hne]
      simp only [Bool.false_eq_true, if_false, Int.toNat_natCast, Nat.add_zero, List.length_cons, List.length_nil, Nat.zero_add, List.nil_append]
      have hd : (a ++ 10 :: r).drop (a.length + 1) = r := by
        rw [show a ++ 10 :: r = (a ++ [10]) ++ r by simp]; exact List.drop_left' (by simp)
      have hl : r.length ≤ n := by rw [List.length_append, List.length_cons] at h; omega
      rw [List.take_left' rfl, hd, ih r hl]
theorem splitL_lines (s : List UInt8) : splitL [10] s = linesGo [] s := by
  unfold splitL
  rw [Lib.splitB_data]
  exact splitK_lines _ s (Nat.le_refl _)

/-! ### Words -/
def wordsGo (cur : List UInt8) : List UInt8 → List (List UInt8)
  | [] => if cur = [] then [] else [cur]
  | b :: r => if b = 32 then (if cur = [] then wordsGo [] r else cur :: wordsGo [] r) else wordsGo (cur ++ [b]) r
theorem wordsGo_run : ∀ (w cur r : List UInt8), (∀ b ∈ w, b ≠ 32) → wordsGo cur (w ++ r) = wordsGo (cur ++ w) r
  | [], cur, r, _ => by simp
  | b :: w, cur, r, h => by
    have hb : b ≠ 32 := h b List.mem_cons_self
    rw [List.cons_append, wordsGo, if_neg hb, wordsGo_run w _ r fun x hx => h x (List.mem_cons_of_mem _ hx)]
    simp

theorem step_bytes (n b0 b1 b2 b3 : Nat) (hn : 1 ≤ n) : (blankR (Lib.decodeN n b0 b1 b2 b3).1 = true → b0 = 32 ∧ (Lib.decodeN n b0 b1 b2 b3).2 = 1) ∧
    (blankR (Lib.decodeN n b0 b1 b2 b3).1 = false → 1 ≤ (Lib.decodeN n b0 b1 b2 b3).2 ∧ (Lib.decodeN n b0 b1 b2 b3).2 ≤ 4 ∧ (Lib.decodeN n b0 b1 b2 b3).2 ≤ n ∧ b0 ≠ 32 ∧ (2 ≤ (Lib.decodeN n b0 b1 b2 b3).2 → b1 ≠ 32) ∧ (3 ≤ (Lib.decodeN n b0 b1 b2 b3).2 → b2 ≠ 32) ∧ (4 ≤ (Lib.decodeN n b0 b1 b2 b3).2 → b3 ≠ 32)) := by
  unfold blankR
  by_cases h0 : b0 < 128
  · rw [Lib.decodeN_ascii _ _ _ _ _ h0]
    simp only [decide_eq_true_eq, decide_eq_false_iff_not]
    refine ⟨fun h => ⟨by omega, trivial⟩, fun h => ⟨by omega, by omega, by omega, by omega, by omega, by omega, by omega⟩⟩
  · rcases Lib.decodeN_shape n b0 b1 b2 b3 with ⟨c, e⟩ | ⟨c1, c2, c3, cv, e⟩ | ⟨c1, c2, c3, c4, cv, cs, e⟩ | ⟨c1, c2, c3, c4, c5, cv, cw, e⟩ | e
    all_goals
      rw [e]
      simp only [decide_eq_true_eq, decide_eq_false_iff_not]
      refine ⟨fun h => ?_, fun h => ⟨by omega, by omega, by omega, by omega, by omega, by omega, by omega⟩⟩
      omega
open Go.Lib in
theorem spansP_eq (s : ByteArray) : ∀ (f pos : Nat) (st : Option Nat) (acc : List (Nat × Nat)), s.size ≤ pos + f → pos ≤ s.size → (∀ a, st = some a → a < pos) →
    acc.map (fun p => pieceU s.data.toList p.1 p.2) ++ wordsGo (openPiece s.data.toList st pos) (s.data.toList.drop pos) = (closeSpans s (spansFromP blankR s f pos st acc)).map (fun p => pieceU s.data.toList p.1 p.2)
  | 0, pos, st, acc, h, hp, hst => by
    obtain rfl : pos = s.size := by omega
    have hd : s.data.toList.drop s.size = [] := List.drop_eq_nil_of_le (by rw [← size_eq]; exact Nat.le_refl _)
    rw [hd, wordsGo]
    cases st with
    | none => simp [spansFromP, closeSpans, openPiece]
    | some a =>
      have := pieceU_ne s.data.toList a s.size (hst a rfl) (by rw [← size_eq]; exact Nat.le_refl _)
      simp [spansFromP, closeSpans, openPiece, this]
  | f + 1, pos, st, acc, h, hp, hst => by
    by_cases hlt : pos < s.size
    · have hl : s.data.toList.length = s.size := (size_eq s).symm
      have hsb := step_bytes (s.data.toList.length - pos) (s.data.toList.getD pos 0).toNat (s.data.toList.getD (pos + 1) 0).toNat (s.data.toList.getD (pos + 2) 0).toNat (s.data.toList.getD (pos + 3) 0).toNat (by omega)
      rw [← decode_N] at hsb
      obtain ⟨hs1, hs2⟩ := hsb
      simp only [spansFromP, if_pos hlt]
      have hn0 : ∀ i, i < s.size → (s.data.toList.getD i 0).toNat ≠ 32 → s.data.toList.getD i 0 ≠ 32 := fun i _ h e => h (by rw [e]; rfl)
      cases hsp : blankR (Utf8.decode s pos).1 with
      | true =>
        obtain ⟨hb, hw⟩ := hs1 hsp
        simp only [if_true]
        rw [hw]
        have hb' : s.data.toList.getD pos 0 = 32 := UInt8.toNat_inj.1 (by rw [hb]; rfl)
        have hdr : s.data.toList.drop pos = 32 :: s.data.toList.drop (pos + 1) := by
          have hlp : pos < s.data.toList.length := by omega
          rw [List.drop_eq_getElem_cons hlp]
          congr 1
          rw [← hb', List.getD_eq_getElem?_getD, List.getElem?_eq_getElem hlp]; rfl
        rw [hdr, wordsGo, if_pos rfl]
        cases st with
        | none =>
          have ih := spansP_eq s f (pos + 1) none acc (by omega) (by omega) (fun a h => by cases h)
          simpa [openPiece] using ih
        | some a =>
          have hpn := pieceU_ne s.data.toList a pos (hst a rfl) (by rw [← size_eq]; omega)
          have ih := spansP_eq s f (pos + 1) none (acc ++ [(a, pos)]) (by omega) (by omega) (fun a h => by cases h)
          simpa [openPiece, hpn] using ih
      | false =>
        obtain ⟨hw1, hw4, hwn, hb0, hb1, hb2, hb3⟩ := hs2 hsp
        generalize (Utf8.decode s pos).2 = w at *
        simp only [Bool.false_eq_true, if_false]
        have hrun : ∀ b ∈ (s.data.toList.drop pos).take w, b ≠ 32 := by
          intro b hb e
          obtain ⟨i, hi, rfl⟩ := List.getElem_of_mem hb
          rw [List.length_take, List.length_drop] at hi
          rw [List.getElem_take, List.getElem_drop] at e
          have hg : s.data.toList.getD (pos + i) 0 = 32 := by rw [List.getD_eq_getElem?_getD, List.getElem?_eq_getElem (by omega)]; exact e
          have hg' : (s.data.toList.getD (pos + i) 0).toNat = 32 := by rw [hg]; rfl
          have hi' : i = 0 ∨ i = 1 ∨ i = 2 ∨ i = 3 := by omega
          rcases hi' with rfl | rfl | rfl | rfl
          · exact hb0 hg'
          · exact hb1 (by omega) hg'
          · exact hb2 (by omega) hg'
          · exact hb3 (by omega) hg'
        have hdr : s.data.toList.drop pos = (s.data.toList.drop pos).take w ++ s.data.toList.drop (pos + w) := by
          rw [← List.drop_drop, List.take_append_drop]
        cases st with
        | none =>
          have ih := spansP_eq s f (pos + w) (some pos) acc (by omega) (by omega) (fun a h => by cases h; omega)
          have e : ([] : List UInt8) ++ (s.data.toList.drop pos).take w = pieceU s.data.toList pos (pos + w) := by
            unfold pieceU
            rw [List.nil_append, Nat.add_sub_cancel_left]
          simp only [openPiece] at ih ⊢
          rw [hdr, wordsGo_run _ _ _ hrun, e]
          exact ih
        | some a =>
          have ih := spansP_eq s f (pos + w) (some a) acc (by omega) (by omega) (fun b h => by cases h; have := hst a rfl; omega)
          simp only [openPiece] at ih ⊢
          rw [hdr, wordsGo_run _ _ _ hrun, pieceU_grow _ _ _ _ (Nat.le_of_lt (hst a rfl))]
          exact ih
    · obtain rfl : pos = s.size := by omega
      have hd : s.data.toList.drop s.size = [] := List.drop_eq_nil_of_le (by rw [← size_eq]; exact Nat.le_refl _)
      rw [hd, wordsGo, spansFromP_end _ s _ _ _ _ hlt]
      cases st with
      | none => simp [closeSpans, openPiece]
      | some a =>
        have := pieceU_ne s.data.toList a s.size (hst a rfl) (by rw [← size_eq]; exact Nat.le_refl _)
        simp [closeSpans, openPiece, this]

open Go.Lib in
/-- The words are what stands between the blanks, byte by byte, whatever the bytes are. -/
theorem fieldsL_words (l : List UInt8) : fieldsL l = wordsGo [] l := by
  have h := spansP_eq ⟨l.toArray⟩ (ByteArray.size ⟨l.toArray⟩) 0 none [] (by omega) (Nat.zero_le _) (fun a h => by cases h)
  simp only [List.map_nil, List.nil_append, openPiece, List.drop_zero] at h
  unfold fieldsL goFieldsP spansOfP
  rw [h, List.map_map]
  congr 1
  funext p
  simp [pieceU]
end Go.X.TryzW
end
section
/- The text of a definition, read line by line. -/
namespace Go.X.TryzW
open Go Go.X
set_option maxRecDepth 100000
set_option linter.unusedSimpArgs false

/-- A word: bytes, none of them a blank or an end of line. -/
def GoodW (w : List UInt8) : Prop := w ≠ [] ∧ (∀ b ∈ w, b ≠ 32) ∧ (∀ b ∈ w, b ≠ 10)
theorem goodW_of (w : List UInt8) (h : (!w.isEmpty && w.all fun b => !decide (b = 32) && !decide (b = 10)) = true) : GoodW w := by
  simp only [Bool.and_eq_true, Bool.not_eq_true', List.isEmpty_eq_false_iff, List.all_eq_true, decide_eq_false_iff_not] at h
  exact ⟨h.1, fun b hb => (h.2 b hb).1, fun b hb => (h.2 b hb).2⟩
theorem named_good {s : List UInt8} {b : Bool} {m : Int} (h : namedS s b m = true) : GoodW s := by
  have hl := named_len h
  unfold namedS at h
  simp only [Bool.and_eq_true, List.all_eq_true] at h
  have key : ∀ c : UInt8, okB b c = true → c ≠ 32 ∧ c ≠ 10 := by
    intro c hc
    constructor <;> (intro e; subst e; revert hc; cases b <;> decide)
  refine ⟨fun e => by rw [e] at hl; simp at hl, fun c hc => (key c (h.1 c hc)).1, fun c hc => (key c (h.1 c hc)).2⟩
theorem dec_good (N : Nat) : GoodW (Lib.decDigits N) := by
  have h := dec_dig N
  have key : ∀ c : UInt8, digB c = true → c ≠ 32 ∧ c ≠ 10 := by
    intro c hc
    constructor <;> (intro e; subst e; revert hc; decide)
  exact ⟨dec_ne N, fun c hc => (key c (h c hc)).1, fun c hc => (key c (h c hc)).2⟩
theorem itoa_good {n : Int} (h : 0 ≤ n) : GoodW (Lib.itoa n) := by
  obtain ⟨N, rfl⟩ : ∃ N : Nat, n = N := ⟨n.toNat, by omega⟩
  rw [itoa_nat]; exact dec_good N
theorem words_good {n : NodeD} (h : NodeOk n) : ∀ w ∈ n.words, GoodW w := by
  have hd := h.delay.1
  intro w hw
  unfold NodeD.words at hw
  simp only [List.mem_append, List.mem_cons, List.not_mem_nil, or_false] at hw
  rcases hw with ((((hw | hw) | hw) | hw) | hw)
  · rcases hw with rfl | rfl
    · exact named_good h.name
    · unfold kindS
      repeat' split
      all_goals exact goodW_of _ (by decide)
  · unfold NodeD.w1 at hw
    split at hw
    · rw [List.mem_singleton] at hw; subst hw; exact itoa_good hd
    · rename_i h2
      split at hw
      · rename_i h5
        simp only [List.mem_cons, List.not_mem_nil, or_false] at hw
        rcases hw with rfl | rfl
        · exact named_good (h.to5 h5)
        · exact named_good (h.arg h2)
      · rw [List.mem_singleton] at hw; subst hw; exact named_good (h.arg h2)
  · unfold NodeD.w2 at hw
    split at hw
    · rename_i hk
      simp only [List.mem_cons, List.not_mem_nil, or_false] at hw
      rcases hw with rfl | rfl
      · exact goodW_of _ (by decide)
      · have := h.tries hk.1; exact itoa_good (by omega)
    · cases hw
  · unfold NodeD.w3 at hw
    split at hw
    · simp only [List.mem_cons, List.not_mem_nil, or_false] at hw
      rcases hw with rfl | rfl
      · exact goodW_of _ (by decide)
      · exact itoa_good hd
    · cases hw
  · unfold NodeD.w4 at hw
    split at hw
    · cases hw
    · rcases List.mem_cons.1 hw with rfl | hw
      · exact goodW_of _ (by decide)
      · exact named_good (h.after w hw)

/-- Blanks: one or more. -/
theorem blanks_skip : ∀ (sp l : List UInt8), (∀ b ∈ sp, b = 32) → wordsGo [] (sp ++ l) = wordsGo [] l
  | [], _, _ => rfl
  | b :: sp, l, h => by
    have hb : b = 32 := h b List.mem_cons_self
    rw [List.cons_append, wordsGo, if_pos hb, if_pos rfl, blanks_skip sp l fun x hx => h x (List.mem_cons_of_mem _ hx)]
theorem words_tail (sp : List UInt8) (hsp : ∀ b ∈ sp, b = 32) : ∀ (r : List (List UInt8)) (cur : List UInt8), (∀ w ∈ r, GoodW w) → wordsGo cur (Lib.joinTail (32 :: sp) r) = (if cur = [] then [] else [cur]) ++ r
  | [], cur, _ => by simp [Lib.joinTail, wordsGo]
  | y :: r, cur, h => by
    have hy := h y List.mem_cons_self
    have ih := words_tail sp hsp r y fun w hw => h w (List.mem_cons_of_mem _ hw)
    have e : Lib.joinTail (32 :: sp) (y :: r) = 32 :: (sp ++ (y ++ Lib.joinTail (32 :: sp) r)) := by simp [Lib.joinTail]
    rw [e, wordsGo, if_pos rfl, blanks_skip _ _ hsp, wordsGo_run _ _ _ hy.2.1, List.nil_append, ih, if_neg hy.1]
    split <;> simp
theorem words_join (sp : List UInt8) (hsp : ∀ b ∈ sp, b = 32) (ws : List (List UInt8)) (h : ∀ w ∈ ws, GoodW w) : wordsGo [] (Lib.join ws (32 :: sp)) = ws := by
  cases ws with
  | nil => simp [Lib.join, List.intercalate, wordsGo]
  | cons x r =>
    have hx := h x List.mem_cons_self
    rw [Lib.join_cons, wordsGo_run _ _ _ hx.2.1, List.nil_append, words_tail sp hsp r x fun w hw => h w (List.mem_cons_of_mem _ hw), if_neg hx.1]
    rfl
theorem join_no10 (sp : List UInt8) (hsp : ∀ b ∈ sp, b = 32) (ws : List (List UInt8)) (h : ∀ w ∈ ws, GoodW w) : ∀ b ∈ Lib.join ws (32 :: sp), b ≠ 10 := by
  have h32 : ∀ b ∈ (32 :: sp), b ≠ 10 := by
    intro b hb e
    subst e
    rcases List.mem_cons.1 hb with hb | hb
    · revert hb; decide
    · have := hsp _ hb; revert this; decide
  cases ws with
  | nil => simp [Lib.join, List.intercalate]
  | cons x r =>
    rw [Lib.join_cons]
    intro b hb
    rcases List.mem_append.1 hb with hb | hb
    · exact (h x List.mem_cons_self).2.2 b hb
    · unfold Lib.joinTail at hb
      obtain ⟨l, hl, hb⟩ := List.mem_flatten.1 hb
      obtain ⟨w, hw, rfl⟩ := List.mem_map.1 hl
      rcases List.mem_append.1 hb with hb | hb
      · exact h32 b hb
      · exact (h w (List.mem_cons_of_mem _ hw)).2.2 b hb

/-! ### The definition's text -/
def nodeL (n : NodeD) : List UInt8 := Lib.join n.words [32]
theorem line_nodeL (n : NodeD) : n.line = nodeL n ++ [10] := rfl
theorem lines_nodes : ∀ (ns : List NodeD) (r : List UInt8), (∀ n ∈ ns, NodeOk n) → linesGo [] ((ns.map NodeD.line).flatten ++ r) = ns.map nodeL ++ linesGo [] r
  | [], _, _ => rfl
  | n :: ns, r, h => by
    have hn := h n List.mem_cons_self
    have e : ((n :: ns).map NodeD.line).flatten ++ r = nodeL n ++ 10 :: ((ns.map NodeD.line).flatten ++ r) := by simp [line_nodeL]
    rw [e, linesGo_app (nodeL n) _ _ (join_no10 [] (by simp) _ (words_good hn)), lines_nodes ns r fun n hn => h n (List.mem_cons_of_mem _ hn)]
    simp
theorem fields_node {n : NodeD} (h : NodeOk n) : fieldsL (nodeL n) = n.words := by
  rw [fieldsL_words]; exact words_join [] (by simp) _ (words_good h)
theorem reads_nodes {d : DefD} (hok : ∀ n ∈ d.nodes, NodeOk n) (tl : List (List UInt8)) (ht : Reads d (some d.nodes.length) tl) : ∀ m k, m + k = d.nodes.length → Reads d (some k) ((d.nodes.drop k).map nodeL ++ tl)
  | 0, k, h => by
    have : k = d.nodes.length := by omega
    subst this
    rw [List.drop_length]; exact ht
  | m + 1, k, h => by
    have hk : k < d.nodes.length := by omega
    rw [List.drop_eq_getElem_cons hk]
    refine .node k _ _ hk ?_ (reads_nodes hok tl ht m (k + 1) (by omega))
    have he : d.nodes.getD k default = d.nodes[k] := by rw [List.getD_eq_getElem?_getD, List.getElem?_eq_getElem hk]; rfl
    rw [he]
    exact fields_node (hok _ (List.getElem_mem _))
def hdrL (d : DefD) : List UInt8 := hdrW ++ d.name
theorem hdr_words (d : DefD) (h : namedS d.name false 64 = true) : wordsGo [] (hdrL d) = [[119, 111, 114, 107, 102, 108, 111, 119], d.name] ∧ ∀ b ∈ hdrL d, b ≠ 10 := by
  have hg := named_good h
  have e : hdrL d = Lib.join [[119, 111, 114, 107, 102, 108, 111, 119], d.name] [32] := by rw [Lib.join_cons]; simp [Lib.joinTail, hdrL, hdrW]
  have hw : ∀ w ∈ [[119, 111, 114, 107, 102, 108, 111, 119], d.name], GoodW w := by
    intro w hw
    simp only [List.mem_cons, List.not_mem_nil, or_false] at hw
    rcases hw with rfl | rfl
    · exact goodW_of _ (by decide)
    · exact hg
  rw [e]
  exact ⟨words_join [] (by simp) _ hw, join_no10 [] (by simp) _ hw⟩
theorem text_lines {d : DefD} (hc : d.check.2 = 0) (r : List UInt8) : linesGo [] (d.text ++ r) = hdrL d :: (d.nodes.map nodeL ++ linesGo [] r) := by
  have e : d.text ++ r = hdrL d ++ 10 :: ((d.nodes.map NodeD.line).flatten ++ r) := by simp [DefD.text, DefD.hdr, hdrL]
  rw [e, linesGo_app _ _ _ (hdr_words d (check_ok hc).2.2.2.2.1).2, lines_nodes _ _ fun n hn => node_ok hc hn]
  rfl
theorem getD_last {α : Type} (l : List α) (x df : α) : (l ++ [x]).getD ((l ++ [x]).length - 1) df = x := by simp [List.getD_eq_getElem?_getD]
theorem parse_text1 {d : DefD} (hc : d.check.2 = 0) : Reads d none (parseLines d.text) := by
  have h := text_lines hc []
  rw [List.append_nil] at h
  have hl : splitL [10] d.text = (hdrL d :: d.nodes.map nodeL) ++ [[]] := by rw [splitL_lines, h]; rfl
  unfold parseLines
  rw [hl, getD_last, if_pos rfl, List.take_left' (by simp)]
  refine .hdr _ _ (by rw [fieldsL_words]; exact (hdr_words d (check_ok hc).2.2.2.2.1).1) ?_
  have := reads_nodes (d := d) (fun n hn => node_ok hc hn) [] .done d.nodes.length 0 (by omega)
  simpa using this
theorem no10_2 : ∀ b ∈ ([32, 32] : List UInt8), b ≠ 10 := by decide
def rmk : List UInt8 := [35, 32, 114, 101, 109, 97, 114, 107, 10, 10, 32, 32]
def rmkE : List UInt8 := [10, 35, 32, 101, 110, 100]
theorem parse_text2 {d : DefD} (hc : d.check.2 = 0) : Reads d none (parseLines (rmk ++ d.text ++ rmkE)) := by
  have hh := hdr_words d (check_ok hc).2.2.2.2.1
  have h1 : linesGo [] (rmk ++ d.text ++ rmkE) = [35, 32, 114, 101, 109, 97, 114, 107] :: [] :: ([32, 32] ++ hdrL d) :: (d.nodes.map nodeL ++ [[], [35, 32, 101, 110, 100]]) := by
    have e : rmk ++ d.text ++ rmkE = [35, 32, 114, 101, 109, 97, 114, 107] ++ 10 :: ([] ++ 10 :: (([32, 32] ++ hdrL d) ++ 10 :: ((d.nodes.map NodeD.line).flatten ++ rmkE))) := by
      simp [rmk, rmkE, DefD.text, DefD.hdr, hdrL]
    rw [e, linesGo_app _ _ _ (by decide), linesGo_app _ _ _ (by simp), linesGo_app _ _ _ (by
      intro b hb
      rcases List.mem_append.1 hb with hb | hb
      · exact no10_2 b hb
      · exact hh.2 b hb), lines_nodes _ _ fun n hn => node_ok hc hn]
    rfl
  have hl : splitL [10] (rmk ++ d.text ++ rmkE) = ([35, 32, 114, 101, 109, 97, 114, 107] :: [] :: ([32, 32] ++ hdrL d) :: (d.nodes.map nodeL ++ [[]])) ++ [[35, 32, 101, 110, 100]] := by rw [splitL_lines, h1]; simp
  unfold parseLines
  rw [hl, getD_last, if_neg (by decide)]
  have hs : ∀ l, wordsGo [] l = [] ∨ (∃ r t, wordsGo [] l = (35 :: r) :: t) → skipW (fieldsL l) := fun l h => by rw [fieldsL_words]; exact h
  rw [List.cons_append, List.cons_append, List.cons_append, List.append_assoc]
  refine .skip _ _ _ (hs _ (.inr ⟨[], [[114, 101, 109, 97, 114, 107]], by decide⟩)) (.skip _ _ _ (hs _ (.inl rfl)) (.hdr _ _ ?_ ?_))
  · rw [fieldsL_words, blanks_skip _ _ (by decide)]; exact hh.1
  · have := reads_nodes (d := d) (fun n hn => node_ok hc hn) ([[]] ++ [[35, 32, 101, 110, 100]]) (.skip _ _ _ (hs _ (.inl rfl)) (.skip _ _ _ (hs _ (.inr ⟨[], [[101, 110, 100]], by decide⟩)) .done)) d.nodes.length 0 (by omega)
    simpa using this
/-- Bounds of lines. -/
theorem lines_bound : ∀ (s cur : List UInt8), (linesGo cur s).length ≤ s.length + 1 ∧ (∀ l ∈ linesGo cur s, l.length ≤ cur.length + s.length) ∧ linesGo cur s ≠ []
  | [], cur => by simp [linesGo]
  | b :: s, cur => by
    rw [linesGo]
    split
    · obtain ⟨h1, h2, h3⟩ := lines_bound s []
      refine ⟨by simp only [List.length_cons]; omega, ?_, by simp⟩
      intro l hl
      rcases List.mem_cons.1 hl with rfl | hl
      · omega
      · have := h2 l hl; simp at this ⊢; omega
    · obtain ⟨h1, h2, h3⟩ := lines_bound s (cur ++ [b])
      refine ⟨by simp only [List.length_cons]; omega, ?_, h3⟩
      intro l hl
      have := h2 l hl
      simp at this ⊢; omega
end Go.X.TryzW
end
section
open Go Go.X Go.Proofs
set_option maxRecDepth 100000
set_option maxHeartbeats 4000000
set_option linter.unusedSimpArgs false
set_option linter.unusedVariables false
namespace Go.X.TryzW
/- "tiller/tillerlaw08.DagBack" params { toList := [24] } results { toList := [Go.ResultVar.tmp 2] } -/
def y3 : XC :=
 (.seq
  (.ops [
    ⟨(some 1), (.box (.t 0)), none⟩,
    ⟨(some 2), (.mov (.c (.bool false))), none⟩])
  (.seq
   (.ops [
     ⟨(some 10), (.loadN 2 (.t 1)), none⟩,
     ⟨(some 11), (.call (.f 5) [(.t 10)]), none⟩,
     ⟨none, (.store 2 (.t 1) (.t 11)), none⟩])
   (.seq
    (.ops [
      ⟨(some 12), (.loadN 2 (.t 1)), none⟩,
      ⟨(some 13), (.call (.f 6) [(.t 12)]), none⟩,
      ⟨(some 3), (.mov (.t 13)), none⟩])
    (.seq
     (.seq
      (.ops [
        ⟨(some 14), (.mov (.t 3)), none⟩,
        ⟨(some 15), (.loadN 2 (.t 1)), none⟩,
        ⟨(some 16), (.call (.f 7) [(.t 15)]), none⟩,
        ⟨(some 17), (.bin .neq (.t 14) (.t 16)), none⟩])
      (.cond (.t 17)
       (.seq
        (.ops [
          ⟨(some 2), (.mov (.c (.bool false))), none⟩])
        .ret)
       .skip))
     (.seq
      (.seq
       (.ops [
         ⟨(some 18), (.mov (.t 3)), none⟩,
         ⟨(some 19), (.bin .eql (.t 18) (.c (.str []))), none⟩,
         ⟨(some 20), (.mov (.t 19)), none⟩,
         ⟨(some 21), (.mov (.t 3)), (some (20, false))⟩,
         ⟨(some 22), (.lenS (.t 21)), (some (20, false))⟩,
         ⟨(some 23), (.bin .gtr (.t 22) (.c (.int .i64 16000))), (some (20, false))⟩,
         ⟨(some 24), (.pick (.t 20) (.c (.bool true)) (.t 23)), none⟩])
       (.cond (.t 24)
        (.seq
         (.ops [
           ⟨(some 25), (.call (.f 8) []), none⟩,
           ⟨(some 2), (.mov (.t 25)), none⟩])
         .ret)
        .skip))
      (.seq
       (.ops [
         ⟨(some 27), (.mov (.t 3)), none⟩,
         ⟨(some 28), (.call (.f 9) [(.t 27)]), none⟩,
         ⟨(some 26), (.mov (.t 28)), none⟩,
         ⟨(some 29), (.ext (.t 26) 0), none⟩,
         ⟨(some 30), (.ext (.t 26) 1), none⟩,
         ⟨(some 31), (.ext (.t 26) 2), none⟩,
         ⟨(some 4), (.alloc [(.str []), .nsl]), none⟩,
         ⟨none, (.store 2 (.t 4) (.t 29)), none⟩,
         ⟨(some 5), (.mov (.t 30)), none⟩,
         ⟨(some 6), (.mov (.t 31)), none⟩])
       (.seq
        (.ops [
          ⟨(some 33), (.mov (.t 3)), none⟩,
          ⟨(some 34), (.bin .add (.c (.str [35, 32, 114, 101, 109, 97, 114, 107, 10, 10, 32, 32])) (.t 33)), none⟩,
          ⟨(some 35), (.bin .add (.t 34) (.c (.str [10, 35, 32, 101, 110, 100]))), none⟩,
          ⟨(some 36), (.call (.f 9) [(.t 35)]), none⟩,
          ⟨(some 32), (.mov (.t 36)), none⟩,
          ⟨(some 37), (.ext (.t 32) 0), none⟩,
          ⟨(some 38), (.ext (.t 32) 1), none⟩,
          ⟨(some 39), (.ext (.t 32) 2), none⟩,
          ⟨(some 7), (.alloc [(.str []), .nsl]), none⟩,
          ⟨none, (.store 2 (.t 7) (.t 37)), none⟩,
          ⟨(some 8), (.mov (.t 38)), none⟩,
          ⟨(some 9), (.mov (.t 39)), none⟩])
        (.seq
         (.ops [
           ⟨(some 40), (.mov (.t 6)), none⟩,
           ⟨(some 41), (.bin .eql (.t 40) (.c (.int .i64 0))), none⟩,
           ⟨(some 42), (.mov (.t 41)), none⟩,
           ⟨(some 43), (.mov (.t 9)), (some (42, true))⟩,
           ⟨(some 44), (.bin .eql (.t 43) (.c (.int .i64 0))), (some (42, true))⟩,
           ⟨(some 45), (.pick (.t 42) (.t 44) (.c (.bool false))), none⟩,
           ⟨(some 46), (.mov (.t 45)), none⟩,
           ⟨(some 47), (.loadN 2 (.t 4)), (some (46, true))⟩,
           ⟨(some 48), (.loadN 2 (.t 1)), (some (46, true))⟩,
           ⟨(some 49), (.call (.f 10) [(.t 47), (.t 48)]), (some (46, true))⟩,
           ⟨(some 50), (.pick (.t 46) (.t 49) (.c (.bool false))), none⟩,
           ⟨(some 51), (.mov (.t 50)), none⟩,
           ⟨(some 52), (.loadN 2 (.t 7)), (some (51, true))⟩,
           ⟨(some 53), (.loadN 2 (.t 1)), (some (51, true))⟩,
           ⟨(some 54), (.call (.f 10) [(.t 52), (.t 53)]), (some (51, true))⟩,
           ⟨(some 55), (.pick (.t 51) (.t 54) (.c (.bool false))), none⟩,
           ⟨(some 56), (.mov (.t 55)), none⟩,
           ⟨(some 57), (.loadN 2 (.t 4)), (some (56, true))⟩,
           ⟨(some 58), (.call (.f 6) [(.t 57)]), (some (56, true))⟩,
           ⟨(some 59), (.mov (.t 3)), (some (56, true))⟩,
           ⟨(some 60), (.bin .eql (.t 58) (.t 59)), (some (56, true))⟩,
           ⟨(some 61), (.pick (.t 56) (.t 60) (.c (.bool false))), none⟩,
           ⟨(some 62), (.mov (.t 61)), none⟩,
           ⟨(some 63), (.call (.f 8) []), (some (62, true))⟩,
           ⟨(some 64), (.pick (.t 62) (.t 63) (.c (.bool false))), none⟩,
           ⟨(some 2), (.mov (.t 64)), none⟩])
         .ret))))))))

section
variable {E : Env}
theorem parse1 (hP : E.P = Tryz.prog) {m : Int} (hm : E.gl 0 = some [.int .i64 m]) (c : DefD) (hc : c.check.2 = 0) (haf : ∀ n ∈ c.nodes, n.after.length ≤ 10) (hok : c.ok) (hl : c.text.length ≤ 16000) : XPure E 9 [.str c.text] (.tup [c.iv, .int .i64 0, .int .i64 0]) := by
  obtain ⟨h1, h2, h3⟩ := lines_bound c.text []
  rw [List.length_nil] at h2
  exact parse_pure hP hm c hc haf hok c.text (by omega) (by rw [splitL_lines]; exact h3) (by rw [splitL_lines]; omega) (by rw [splitL_lines]; intro l hl'; have := h2 l hl'; omega) (parse_text1 hc)
theorem parse2 (hP : E.P = Tryz.prog) {m : Int} (hm : E.gl 0 = some [.int .i64 m]) (c : DefD) (hc : c.check.2 = 0) (haf : ∀ n ∈ c.nodes, n.after.length ≤ 10) (hok : c.ok) (hl : c.text.length ≤ 16000) : XPure E 9 [.str (rmk ++ c.text ++ rmkE)] (.tup [c.iv, .int .i64 0, .int .i64 0]) := by
  have hlen : (rmk ++ c.text ++ rmkE).length ≤ 16018 := by simp [rmk, rmkE]; omega
  have hr := parse_text2 hc
  generalize rmk ++ c.text ++ rmkE = s at *
  obtain ⟨h1, h2, h3⟩ := lines_bound s []
  rw [List.length_nil] at h2
  exact parse_pure hP hm c hc haf hok s (by omega) (by rw [splitL_lines]; exact h3) (by rw [splitL_lines]; omega) (by rw [splitL_lines]; intro l hl'; have := h2 l hl'; omega) hr

theorem back_pure (hP : E.P = Tryz.prog) {m : Int} (hm : E.gl 0 = some [.int .i64 m]) (ht : ∀ w, E.G w → Lib.TabIs Tryz.prog w "internal/strconv.uint64pow10" .u64 Lib.pow10Tab) (d : DefD) (hd : d.nodes.length ≤ 9223372036854775807) (ha : ∀ n ∈ d.nodes, n.after.length ≤ 9223372036854775807) (hok : d.ok) : XPure E 3 [d.iv] (.bool true) := by
  refine xpure1 (n := Tryz.f3.ntmps) (c := y3) (t := 2) (by rw [hP]; rfl) (by rw [hP]; kernel_rfl) (by decide) (Nat.le_of_ble_eq_true rfl) ?_
  generalize hρ : entry _ = ρ
  have h0 : ρ 0 = .agg [.str d.name, .isl (nodeRows d.nodes)] := by rw [← hρ]; rfl
  clear hρ
  unfold y3
  simp only [h0, go_sem, Nat.reduceEqDiff, reduceIte, Int.reduceEq, Int.reduceLT, Int.reduceLE, Nat.reduceAdd, Nat.reduceLT, Nat.reduceLeDiff, Int.reduceToNat, Int.reduceSub, Int.reduceAdd, Int.reduceNeg]
  refine xcall_pure (args' := [d.iv]) rfl (cut_pure (E := E.noPan) hP d hd ha) rfl ?_
  have hcl := cut_len d
  have hca : ∀ n ∈ d.cut.nodes, n.after.length ≤ 10 := fun n hn => cut_after hn
  have hco := cut_ok hok
  generalize d.cut = c at *
  simp only [h0, DefD.iv, go_sem, Nat.reduceEqDiff, reduceIte, Int.reduceEq, Int.reduceLT, Int.reduceLE, Nat.reduceAdd, Nat.reduceLT, Nat.reduceLeDiff, Int.reduceToNat, Int.reduceSub, Int.reduceAdd, Int.reduceNeg]
  refine xcall_pure (args' := [c.iv]) rfl (dagText_pure (E := E.noPan) hP hm ht c (by omega) hco hca) rfl ?_
  simp only [h0, go_sem, Nat.reduceEqDiff, reduceIte, Int.reduceEq, Int.reduceLT, Int.reduceLE, Nat.reduceAdd, Nat.reduceLT, Nat.reduceLeDiff, Int.reduceToNat, Int.reduceSub, Int.reduceAdd, Int.reduceNeg]
  refine xcall_pure (args' := [c.iv]) rfl (refText_pure (E := E.noPan) hP c (by omega) hco hca) rfl ?_
  have e1 : ∀ s : List UInt8, (s = s) = True := fun s => eq_self s
  simp only [h0, e1, decide_true, Bool.not_true, go_sem, Nat.reduceEqDiff, reduceIte, Int.reduceEq, Int.reduceLT, Int.reduceLE, Nat.reduceAdd, Nat.reduceLT, Nat.reduceLeDiff, Int.reduceToNat, Int.reduceSub, Int.reduceAdd, Int.reduceNeg]
  have hwk := wakes_pure (E := E.noPan) hP
  by_cases hc : c.check.2 = 0
  case neg =>
    have hS : c.textS = [] := by unfold DefD.textS; rw [if_neg hc]
    simp only [h0, hS, e1, decide_true, Bool.not_true, go_sem, Nat.reduceEqDiff, reduceIte, Int.reduceEq, Int.reduceLT, Int.reduceLE, Nat.reduceAdd, Nat.reduceLT, Nat.reduceLeDiff, Int.reduceToNat, Int.reduceSub, Int.reduceAdd, Int.reduceNeg]
    refine xcall_pure (args' := []) rfl hwk rfl ?_
    simp only [h0, go_sem, Nat.reduceEqDiff, reduceIte, Int.reduceEq, Int.reduceLT, Int.reduceLE, Nat.reduceAdd, Nat.reduceLT, Nat.reduceLeDiff, Int.reduceToNat, Int.reduceSub, Int.reduceAdd, Int.reduceNeg]
    rfl
  have hS : c.textS = c.text := by unfold DefD.textS; rw [if_pos hc]
  have hT := dagText_pure (E := E.noPan) hP hm ht c (by omega) hco hca
  rw [hS] at hT ⊢
  have en : (c.text = []) = False := eq_false (by unfold DefD.text DefD.hdr hdrW; simp)
  by_cases hl : c.text.length ≤ 16000
  case neg =>
    have e6 : ((16000 : Int) < (c.text.length : Int)) = True := eq_true (by omega)
    simp only [h0, en, e6, go_sem, Nat.reduceEqDiff, reduceIte, Int.reduceEq, Int.reduceLT, Int.reduceLE, Nat.reduceAdd, Nat.reduceLT, Nat.reduceLeDiff, Int.reduceToNat, Int.reduceSub, Int.reduceAdd, Int.reduceNeg]
    refine xcall_pure (args' := []) rfl hwk rfl ?_
    simp only [h0, go_sem, Nat.reduceEqDiff, reduceIte, Int.reduceEq, Int.reduceLT, Int.reduceLE, Nat.reduceAdd, Nat.reduceLT, Nat.reduceLeDiff, Int.reduceToNat, Int.reduceSub, Int.reduceAdd, Int.reduceNeg]
    rfl
  have e6 : ((16000 : Int) < (c.text.length : Int)) = False := eq_false (by omega)
  have hp1 := parse1 (E := E.noPan) hP hm c hc hca hco hl
  have hp2 := parse2 (E := E.noPan) hP hm c hc hca hco hl
  have hdf := def_same (E := E.noPan) hP c (by omega) (fun n hn => by have := hca n hn; omega)
  generalize c.text = s at *
  simp only [h0, en, e6, go_sem, Nat.reduceEqDiff, reduceIte, Int.reduceEq, Int.reduceLT, Int.reduceLE, Nat.reduceAdd, Nat.reduceLT, Nat.reduceLeDiff, Int.reduceToNat, Int.reduceSub, Int.reduceAdd, Int.reduceNeg]
  refine xcall_pure (args' := [.str s]) rfl hp1 rfl ?_
  simp only [h0, DefD.iv, go_sem, Nat.reduceEqDiff, reduceIte, Int.reduceEq, Int.reduceLT, Int.reduceLE, Nat.reduceAdd, Nat.reduceLT, Nat.reduceLeDiff, Int.reduceToNat, Int.reduceSub, Int.reduceAdd, Int.reduceNeg]
  have hs2 : rmk ++ s ++ rmkE = 35 :: 32 :: 114 :: 101 :: 109 :: 97 :: 114 :: 107 :: 10 :: 10 :: 32 :: 32 :: (s ++ [10, 35, 32, 101, 110, 100]) := by simp [rmk, rmkE]
  rw [hs2] at hp2
  refine ⟨by omega, by omega, ?_⟩
  refine xcall_pure (args' := [_]) rfl hp2 rfl ?_
  have e0 : ((0 : Int) = 0) = True := eq_self _
  simp only [h0, DefD.iv, e0, decide_true, go_sem, Nat.reduceEqDiff, reduceIte, Int.reduceEq, Int.reduceLT, Int.reduceLE, Nat.reduceAdd, Nat.reduceLT, Nat.reduceLeDiff, Int.reduceToNat, Int.reduceSub, Int.reduceAdd, Int.reduceNeg]
  refine xcall_pure (args' := [c.iv, c.iv]) rfl hdf rfl ?_
  simp only [h0, DefD.iv, e0, decide_true, go_sem, Nat.reduceEqDiff, reduceIte, Int.reduceEq, Int.reduceLT, Int.reduceLE, Nat.reduceAdd, Nat.reduceLT, Nat.reduceLeDiff, Int.reduceToNat, Int.reduceSub, Int.reduceAdd, Int.reduceNeg]
  refine xcall_pure (args' := [c.iv, c.iv]) rfl hdf rfl ?_
  simp only [h0, DefD.iv, e0, decide_true, go_sem, Nat.reduceEqDiff, reduceIte, Int.reduceEq, Int.reduceLT, Int.reduceLE, Nat.reduceAdd, Nat.reduceLT, Nat.reduceLeDiff, Int.reduceToNat, Int.reduceSub, Int.reduceAdd, Int.reduceNeg]
  refine xcall_pure (args' := [c.iv]) rfl hT rfl ?_
  simp only [h0, e1, decide_true, go_sem, Nat.reduceEqDiff, reduceIte, Int.reduceEq, Int.reduceLT, Int.reduceLE, Nat.reduceAdd, Nat.reduceLT, Nat.reduceLeDiff, Int.reduceToNat, Int.reduceSub, Int.reduceAdd, Int.reduceNeg]
  refine xcall_pure (args' := []) rfl hwk rfl ?_
  simp only [h0, go_sem, Nat.reduceEqDiff, reduceIte, Int.reduceEq, Int.reduceLT, Int.reduceLE, Nat.reduceAdd, Nat.reduceLT, Nat.reduceLeDiff, Int.reduceToNat, Int.reduceSub, Int.reduceAdd, Int.reduceNeg]
  rfl
end
end Go.X.TryzW
end
