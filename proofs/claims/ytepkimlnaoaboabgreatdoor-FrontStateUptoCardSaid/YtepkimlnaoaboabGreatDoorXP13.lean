/- Parts of the proof: XSized. -/
import Derived.Test.YtepkimlnaoaboabGreatDoorXP12
import Derived.SizedLaws
set_option linter.unusedVariables false
set_option linter.unusedSimpArgs false
set_option linter.unusedSectionVars false
section
/- The calculus X, part 28: what a call was handed, as trees, with the sizes that a machine's memory bounds. -/
namespace Go.X
open Go Go.ChangeShapes Go.WideShapes Go.RowKit
mutual
/-- These cells are a value of this shape; no text is longer than a machine's memory. -/
def Ty.OfS : Ty → List IV → Prop
  | .bool, c => ∃ b, c = [.bool b]
  | .int k, c => ∃ n, c = [.int k n] ∧ (Lit.int k n).wf = true
  | .str, c => ∃ s : List UInt8, c = [.str s] ∧ s.length ≤ 140737488351232
  | .slice e, c => ∃ rows : List (List IV), c = [.isl rows] ∧ rows.length ≤ 9223372036854775807 ∧ ∀ row ∈ rows, e.OfS row
  | .struct fs, c => Ty.OfSAll fs c
def Ty.OfSAll : List Ty → List IV → Prop
  | [], c => c = []
  | f :: fs, c => ∃ a b, c = a ++ b ∧ f.OfS a ∧ Ty.OfSAll fs b
end

mutual
theorem Ty.closedS : ∀ (t : Ty) (c : List IV), t.OfS c → Go.X.closed.closedL c = true ∧ c.length = t.size
  | .bool, c, h => by obtain ⟨b, rfl⟩ := h; exact ⟨rfl, rfl⟩
  | .int k, c, h => by obtain ⟨b, rfl, _⟩ := h; exact ⟨rfl, rfl⟩
  | .str, c, h => by obtain ⟨b, rfl, _⟩ := h; exact ⟨rfl, rfl⟩
  | .slice e, c, h => by obtain ⟨b, rfl, _⟩ := h; exact ⟨rfl, rfl⟩
  | .struct fs, c, h => Ty.closedSAll fs c h
theorem Ty.closedSAll : ∀ (t : List Ty) (c : List IV), Ty.OfSAll t c → Go.X.closed.closedL c = true ∧ c.length = Ty.sizes t
  | [], c, h => by cases h; exact ⟨rfl, rfl⟩
  | f :: fs, c, h => by
    obtain ⟨a, b, rfl, h1, h2⟩ := h
    obtain ⟨h3, h4⟩ := Ty.closedS f a h1
    obtain ⟨h5, h6⟩ := Ty.closedSAll fs b h2
    exact ⟨by rw [closedL_append, h3, h5]; rfl, by rw [List.length_append, h4, h6]; rfl⟩
end

section
variable {H : Type} {enc : TypeId × Value → H} {P : Program} {W : World} {sp : Nat → Bool} {hd : Bool}
theorem weightsAll_mem {e : TypeId} : ∀ {l : List (DataW H)} {d : DataW H}, d ∈ l → ∀ n ∈ d.weights P e, n ∈ DataW.weightsAll P e l
  | x :: l, d, hd, n, hn => by
    unfold DataW.weightsAll
    rcases List.mem_cons.1 hd with rfl | hd
    · exact List.mem_append_left _ hn
    · exact List.mem_append_right _ (weightsAll_mem hd n hn)
mutual
theorem trod_toldS : ∀ (ty : Ty) {fuel : Nat} {t : TypeId} {cs : List Value} {x : DataW H × List MemPlace}, ty.fits P t = true → DataW.trod enc P W 0 sp hd fuel t cs = some x → (∀ n ∈ x.1.weights P t, n ≤ 140737488351232) → ∃ ivs, ty.OfS ivs ∧ Told W ivs cs
  | .bool, fuel, t, cs, x, hf, h, hw => by
    unfold Ty.fits at hf
    split at hf
    · rename_i ht
      obtain ⟨b, rfl, _⟩ := DataW.trod_bool ht h
      exact ⟨[.bool b], ⟨b, rfl⟩, told_one (.bool b)⟩
    · cases hf
  | .int k, fuel, t, cs, x, hf, h, hw => by
    unfold Ty.fits at hf
    split at hf
    · rename_i k' ht
      obtain rfl := of_decide_eq_true hf
      obtain ⟨n, rfl, _, hw⟩ := DataW.trod_int ht h
      exact ⟨[.int k' n], ⟨n, rfl, hw⟩, told_one (.int k' n)⟩
    · cases hf
  | .str, fuel, t, cs, x, hf, h, hw => by
    unfold Ty.fits at hf
    split at hf
    · rename_i ht
      obtain ⟨s, rfl, rfl, hs⟩ := DataW.trod_string ht h
      exact ⟨[.str s.data.toList], ⟨_, rfl, hw _ (by simp [DataW.weights])⟩, told_one (vr_string _ s)⟩
    · cases hf
  | .slice e, fuel, t, cs, x, hf, h, hw => by
    unfold Ty.fits at hf
    split at hf
    · rename_i u ht
      simp only [Bool.and_eq_true, decide_eq_true_eq] at hf
      obtain ⟨⟨hfe, hce⟩, hpos⟩ := hf
      rcases Deep.open_slice ht h with ⟨rfl, _⟩ | ⟨a, len, cap, m, n, D, Pl, rfl, _, hl, hm, hmm, rfl, hx⟩
      · exact ⟨[.isl []], ⟨[], rfl, by simp, by simp⟩, told_one (.isl [] none 0 1 (fun _ _ => undef) (Nat.le_refl _) (fun i row hi => by simp at hi) (fun i row hi => by simp at hi) (.inl rfl) (fun i row hi => by simp at hi))⟩
      · have hlm : len ≤ m := by rw [hmm]; split <;> omega
        rw [maxLen_eq] at hm
        have each : ∀ i, i < len → ∃ q : List IV × List Value, e.OfS q.1 ∧ Told W q.1 q.2 ∧ ∀ j, j < e.size → W.cell? (a.add (i * e.size + j)) = q.2[j]? := fun i hi => by
          obtain ⟨cs', h1, h2⟩ := hx i (by omega)
          obtain ⟨_, hlen, hc⟩ := World.cells?_some h1
          obtain ⟨ivs, h3, h4⟩ := trod_toldS e hfe h2 (fun k hk => hw k (by
            simp only [DataW.weights, ht]
            exact List.mem_cons_of_mem _ (List.mem_append_left _ (weightsAll_mem (List.mem_map.2 ⟨i, List.mem_range.2 hi, rfl⟩) k hk))))
          refine ⟨(ivs, cs'), h3, h4, fun j hj => ?_⟩
          rw [hce] at hc
          have := hc j hj
          rw [Addr.add_add] at this
          exact this
        obtain ⟨q, hq⟩ := Deep.choose_lt each
        refine ⟨[.isl ((List.range len).map fun i => (q i).1)], ⟨_, rfl, by simp; omega, fun row hr => ?_⟩, told_one ?_⟩
        · obtain ⟨i, hi, rfl⟩ := List.mem_map.1 hr
          exact (hq i (List.mem_range.1 hi)).1
        · refine vr_slice (sz := e.size) (vals := fun i j => (q i).2.getD j undef) (by simp) hl hpos (fun row hr => ?_) (fun row hr => ?_) (fun i j hi hj => ?_) (fun i row hi j x hj => ?_)
          · obtain ⟨i, hi, rfl⟩ := List.mem_map.1 hr
            exact (Ty.closedS e _ (hq i (List.mem_range.1 hi)).1).2
          · obtain ⟨i, hi, rfl⟩ := List.mem_map.1 hr
            exact (Ty.closedS e _ (hq i (List.mem_range.1 hi)).1).1
          · obtain ⟨h1, h2, h3⟩ := hq i hi
            have h4 : (q i).2.length = e.size := by rw [← h2.1]; exact (Ty.closedS e _ h1).2
            rw [h3 j hj, List.getD_eq_getElem?_getD, List.getElem?_eq_getElem (by omega)]
            rfl
          · simp only [List.getElem?_map, Option.map_eq_some_iff] at hi
            obtain ⟨k, hk, rfl⟩ := hi
            have hlt : i < len := by have := lt_of_get hk; simpa using this
            rw [List.getElem?_range hlt] at hk
            cases hk
            exact (hq i hlt).2.1.2 j x hj
    · cases hf
  | .struct fs, fuel, t, cs, x, hf, h, hw => by
    unfold Ty.fits at hf
    split at hf
    · rename_i us ht
      simp only [Bool.and_eq_true, decide_eq_true_eq] at hf
      obtain ⟨hfa, hc⟩ := hf
      obtain ⟨xs, n, _, rfl, hl, hlen, hx⟩ := DataW.trod_struct ht h
      rw [hc] at hl
      have h2 := trod_toldSAll fs (us := us.toList) (o := 0) (cs := cs) (n := n) (by rw [hl]; omega) hfa (fun i f hi => by
        have h3 := hx i f (by simpa using hi)
        have hi' : i < xs.length := by rw [hlen]; have := lt_of_get hi; simpa using this
        rw [List.getElem?_eq_getElem hi'] at h3
        refine ⟨_, h3, fun k hk => hw k ?_⟩
        simp only [DataW.weights, ht]
        exact DataW.weights_mem_each (j := i) (t := f.type) (d := xs[i].1) (by rw [List.getElem?_map, hi]; rfl) (by rw [List.getElem?_map, List.getElem?_eq_getElem hi']; rfl) k hk)
      rw [List.drop_zero] at h2
      simp only [Ty.OfS]
      exact h2
    · cases hf
theorem trod_toldSAll : ∀ (fs : List Ty) {us : List Field} {o n : Nat} {cs : List Value}, o + Ty.sizes fs = cs.length → Ty.fitsAll P fs us o = true →
    (∀ (i : Nat) (f : Field), us[i]? = some f → ∃ y, DataW.trod enc P W 0 sp hd n f.type ((cs.drop f.offset).take (P.cellsOf f.type)) = some y ∧ ∀ k ∈ y.1.weights P f.type, k ≤ 140737488351232) → ∃ ivs, Ty.OfSAll fs ivs ∧ Told W ivs (cs.drop o)
  | [], [], o, n, cs, hl, hf, h => ⟨[], rfl, by rw [List.drop_of_length_le (by simp only [Ty.sizes] at hl; omega)]; exact ⟨rfl, fun j x hj => by simp at hj⟩⟩
  | [], _ :: _, o, n, cs, hl, hf, h => by simp [Ty.fitsAll] at hf
  | _ :: _, [], o, n, cs, hl, hf, h => by simp [Ty.fitsAll] at hf
  | f :: fs, u :: us, o, n, cs, hl, hf, h => by
    simp only [Ty.fitsAll, Bool.and_eq_true, decide_eq_true_eq] at hf
    obtain ⟨⟨⟨hfu, ho⟩, hc⟩, hfr⟩ := hf
    obtain ⟨y, hy, hyw⟩ := h 0 u rfl
    rw [ho, hc] at hy
    obtain ⟨a, ha, h1, h2⟩ := trod_toldS f hfu hy hyw
    simp only [Ty.sizes] at hl
    obtain ⟨b, hb, h3, h4⟩ := trod_toldSAll fs (us := us) (o := o + f.size) (n := n) (cs := cs) (by omega) hfr (fun i g hi => h (i + 1) g (by simpa using hi))
    refine ⟨a ++ b, ⟨a, b, rfl, ha, hb⟩, ?_, fun j x hj => ?_⟩
    · rw [List.length_append, h1, h3]; simp only [List.length_take, List.length_drop]; omega
    · have hal : a.length = f.size := (Ty.closedS f a ha).2
      by_cases hj' : j < a.length
      · rw [List.getElem?_append_left hj'] at hj
        have := h2 j x hj
        rw [List.getD_eq_getElem?_getD, List.getElem?_take, if_pos (by omega)] at this
        rw [List.getD_eq_getElem?_getD]; exact this
      · rw [List.getElem?_append_right (by omega)] at hj
        have := h4 _ x hj
        rw [List.getD_eq_getElem?_getD, List.getElem?_drop] at this
        rw [List.getD_eq_getElem?_getD, List.getElem?_drop]
        have e : o + f.size + (j - a.length) = o + j := by omega
        rw [e] at this; exact this
end

end
end Go.X
end
