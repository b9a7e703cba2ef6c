/- Parts of the proof: XShelf. -/
import Derived.Test.YtepkimlnaoaboabGreatDoorXP13
import Derived.Below
import Derived.Sort.Grow
set_option linter.unusedVariables false
set_option linter.unusedSimpArgs false
set_option linter.unusedSectionVars false
section
/- The calculus X and the kit's contracts of Go's library: from 'Calls' with 'Below' to XPure, and back. -/
namespace Go.X
open Go Go.RowKit Go.Sort
section
variable {E : Env}

theorem below_ext {C : Ctx} {w' : World} (hL : C.L = []) (h : Below C.w.heap.size C.w w') : Ext C ⟨w', C.φ, [], C.X⟩ where
  size := h.size
  frame := fun b hb _ => h.block b hb
  sub := fun b ⟨s, k, hk, _⟩ => by simp at hk
  slot := fun _ _ => rfl
  bo := fun s ⟨k, hk, _⟩ => by rw [hL] at hk; simp at hk
  len := by rw [hL]; exact Nat.le_refl _
  cap := fun b c e fr hb => ⟨c, e, fr, by rw [← hb]; exact h.block b (Array.getElem?_eq_some_iff.1 hb).1, rfl⟩
  ex := rfl
  os := h.os
  tape := h.tape
  output := h.output

theorem xpure_below {f : FuncId} {args : List IV} {r : IV} (hb : Bodied E.P f)
    (h : ∀ (C : Ctx) (vs : List Value), C.L = [] → E.G C.w → E.g0 ≤ C.w.heap.size → (∀ b, C.own b → b < C.w.heap.size) → args.length = vs.length →
      (∀ (i : Nat) (x : IV), args[i]? = some x → VR C x (vs.getD i undef)) → Calls E.P f vs.toArray C.w fun e w' => ∃ v, e = .returned v ∧ Below C.w.heap.size C.w w' ∧ VR ⟨w', C.φ, [], C.X⟩ r v) : XPure E f args r := by
  refine ⟨hb, fun w φ X vs wf sim hG hl hv => ?_⟩
  have hown : ∀ b, (⟨w, φ, [], X⟩ : Ctx).own b → b < w.heap.size := by
    rintro b (hx | ⟨s, k, hk, _⟩)
    · exact wf.exlo b hx
    · simp at hk
  refine (h ⟨w, φ, [], X⟩ vs rfl hG wf.g hown hl hv).mono fun e w' ⟨v, he, hbl, hvr⟩ => ?_
  refine ⟨r, [], φ, v, ⟨rfl, rfl⟩, he, ?_, fun s k hk => by simp at hk, below_ext (C := ⟨w, φ, [], X⟩) rfl hbl, hvr⟩
  exact ⟨fun s t ks kt hs => by simp at hs, fun b ⟨s, k, hk, _⟩ => by simp at hk, fun b _ ⟨s, k, hk, _⟩ => by simp at hk, fun b hx => Nat.lt_of_lt_of_le (wf.exlo b hx) hbl.size, Nat.le_trans wf.g hbl.size⟩

/-- Texts as rows; a list of texts in a block that nobody writes. -/
def sRows (l : List (List UInt8)) : List (List IV) := l.map fun s => [.str s]
theorem vr_sRows {C : Ctx} {l : List (List UInt8)} {b o cap : Nat} (hcap : l.length ≤ cap) (hb : b < C.w.heap.size) (hn : ¬ C.own b)
    (h : ∀ (i : Nat) (s : List UInt8), l[i]? = some s → C.w.cell? ⟨b, o + i, none⟩ = some (.string ⟨s.toArray⟩)) : VR C (.isl (sRows l)) (.slice (some ⟨b, o, none⟩) l.length cap) := by
  have hlen : (sRows l).length = l.length := by simp [sRows]
  have hrow : ∀ (i : Nat) (row : List IV), (sRows l)[i]? = some row → ∃ s, l[i]? = some s ∧ row = [.str s] := fun i row hi => by
    unfold sRows at hi
    rw [List.getElem?_map, Option.map_eq_some_iff] at hi
    obtain ⟨s, h1, rfl⟩ := hi
    exact ⟨s, h1, rfl⟩
  have := VR.isl (C := C) (sRows l) (some ⟨b, o, none⟩) cap 1 (fun i _ => .string ⟨(l.getD i []).toArray⟩) (by rw [hlen]; exact hcap)
    (fun i row hi => by obtain ⟨s, _, rfl⟩ := hrow i row hi; rfl) (fun i row hi => by obtain ⟨s, _, rfl⟩ := hrow i row hi; rfl)
    (.inr ⟨b, o, rfl, hb, hn, fun i row hi j x hj => by
      obtain ⟨s, h1, rfl⟩ := hrow i row hi
      cases j with
      | zero => rw [Nat.mul_one, Nat.add_zero, h i s h1, getD_getL h1]
      | succ j => simp at hj⟩)
    (fun i row hi j x hj => by
      obtain ⟨s, h1, rfl⟩ := hrow i row hi
      cases j with
      | zero => simp at hj; subst hj; rw [getD_getL h1]; exact .str s
      | succ j => simp at hj)
  rwa [hlen] at this
theorem below_grow (w : World) (k : Nat) (os : Array Obj) : Below w.heap.size w (grow (w.drewN k) os) := by
  have h1 : ∀ k, Below w.heap.size w (w.drewN k) := fun k => by
    induction k with
    | zero => exact Below.refl _ _
    | succ k ih => exact ih.drew
  have h2 := h1 k
  refine h2.trans ⟨rfl, rfl, rfl, by show _ ≤ (_ ++ os).size; simp, fun i hi => ?_⟩
  have hi' : i < (w.drewN k).heap.size := Nat.lt_of_lt_of_le hi h2.size
  show ((w.drewN k).heap ++ os)[i]? = _
  rw [Array.getElem?_append_left hi']
theorem isl_strs {C : Ctx} {l : List (List UInt8)} {v : Value} (h : VR C (.isl (sRows l)) v) : ∃ a cap, v = .slice a l.length cap ∧ l.length ≤ cap ∧
    (l = [] ∨ ∃ b o, a = some ⟨b, o, none⟩ ∧ b < C.w.heap.size ∧ ∀ (i : Nat) (s : List UInt8), l[i]? = some s → C.w.cell? ⟨b, o + i, none⟩ = some (.string ⟨s.toArray⟩)) := by
  have hlen : (sRows l).length = l.length := by simp [sRows]
  generalize hr : sRows l = rows at h hlen
  cases h with
  | isl _ a cap sz vals hcap hsz hcl ha hv =>
    refine ⟨a, cap, by rw [hlen], by omega, ?_⟩
    rcases ha with h0 | ⟨b, o, h1, h2, _, h4⟩
    · left; subst h0; exact List.eq_nil_of_length_eq_zero (by simpa using hlen.symm)
    · refine .inr ⟨b, o, h1, h2, fun i s hs => ?_⟩
      have hi : rows[i]? = some [.str s] := by rw [← hr]; simp [sRows, hs]
      have h5 := hsz i _ hi
      have h6 := h4 i _ hi 0 _ rfl
      have h7 := hv i _ hi 0 _ rfl
      rw [← h5] at h6
      simp only [List.length_cons, List.length_nil, Nat.mul_one, Nat.add_zero, Nat.zero_add] at h6
      rw [h6]
      generalize vals i 0 = u at h7
      cases h7
      rfl
end
end Go.X
end
