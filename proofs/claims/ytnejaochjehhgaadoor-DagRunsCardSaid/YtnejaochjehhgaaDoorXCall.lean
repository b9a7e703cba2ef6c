/- The calculus X, part 6: a call out of its contract. -/
import Derived.Test.YtnejaochjehhgaaDoorXConv
set_option linter.unusedVariables false
set_option linter.unusedSimpArgs false
set_option linter.unusedSectionVars false
namespace Go.X
open Go

def shiftφ (C : Ctx) (φ1 : Nat → Loc) : Nat → Loc := fun s => if s < C.L.length then C.φ s else φ1 (s - C.L.length)

theorem shiftφ_lt {C : Ctx} {φ1 : Nat → Loc} {s : Nat} (h : s < C.L.length) : shiftφ C φ1 s = C.φ s := by simp only [shiftφ, h, if_true]
theorem shiftφ_ge {C : Ctx} {φ1 : Nat → Loc} {t : Nat} : shiftφ C φ1 (C.L.length + t) = φ1 t := by
  have h : ¬ C.L.length + t < C.L.length := by omega
  simp only [shiftφ, h, if_false, Nat.add_sub_cancel_left]

theorem convB_alive {L : List Blk} {n : Nat} {m : Ren} {k k' : Blk} (h : convB L n m k = some k') : k'.alive = k.alive := by
  cases k with
  | cells sz rows => simp only [convB, Option.map_eq_some_iff] at h; obtain ⟨l, _, rfl⟩ := h; rfl
  | siter t p => simp only [convB, Option.some.injEq] at h; subst h; rfl
  | map es => cases h
  | lp r l => simp only [convB, Option.map_eq_some_iff] at h; obtain ⟨l, _, rfl⟩ := h; rfl
  | dead => simp only [convB, Option.some.injEq] at h; subst h; rfl

/-- What a block holds. -/
def InBlk (k : Blk) (x : IV) : Prop := (∃ sz rows, k = .cells sz rows ∧ ∃ (i j : Nat) (row : List IV), rows[i]? = some row ∧ row[j]? = some x) ∨ ∃ (r : Loop) (l : List IV) (n : Nat), k = .lp r l ∧ l[n]? = some x

/-- A block under other names. -/
theorem convB_ok {C C' : Ctx} {n : Nat} {m : Ren} {s s' : Nat} {k k' : Blk} (hw : C'.w = C.w) (hφ : C'.φ s' = C.φ s)
    (hc : ∀ x x' v, InBlk k x → conv C.L n m x = some x' → VR C x v → VR C' x' v)
    (h : convB C.L n m k = some k') (hk : BlkOk C s k) : BlkOk C' s' k' := by
  cases k with
  | cells sz rows =>
    simp only [convB, Option.map_eq_some_iff] at h; obtain ⟨rs, hrs, rfl⟩ := h
    obtain ⟨h1, c, e, h2, h3, h4⟩ := hk
    refine ⟨by rw [hφ]; exact h1, c, e, by rw [hφ, hw]; exact h2, by rw [hφ, mapO_len hrs]; exact h3, fun i row hi => ?_⟩
    obtain ⟨row0, h5, h6⟩ := mapO_get hrs i row hi
    obtain ⟨h7, h8⟩ := h4 i row0 h5
    refine ⟨(mapO_len h6).trans h7, fun j y hj => ?_⟩
    obtain ⟨z, h9, h10⟩ := mapO_get h6 j y hj
    obtain ⟨u, h11, h12⟩ := h8 j z h9
    exact ⟨u, by rw [hφ]; exact h11, hc z y u (.inl ⟨sz, rows, rfl, i, j, row0, h5, h9⟩) h10 h12⟩
  | siter t p => simp only [convB, Option.some.injEq] at h; subst h; exact ⟨by rw [hφ]; exact hk.1, by rw [hφ, hw]; exact hk.2⟩
  | map es => cases h
  | lp r l =>
    simp only [convB, Option.map_eq_some_iff] at h; obtain ⟨l', hl', rfl⟩ := h
    refine ⟨by rw [hφ, hw]; exact hk.1, fun i => ?_⟩
    have h0 := hk.2 i
    rw [List.getD_eq_getElem?_getD] at h0 ⊢
    cases hy : l'[i]? with
    | none =>
      have : l[i]? = none := by rw [List.getElem?_eq_none_iff] at hy ⊢; rw [← mapO_len hl']; exact hy
      rw [this] at h0
      simp only [Option.getD_none] at h0 ⊢
      generalize r.tmps.getD i undef = u at h0 ⊢
      cases h0; exact .und
    | some y =>
      obtain ⟨x, hx, hxy⟩ := mapO_get hl' i y hy
      rw [hx] at h0
      exact hc x y _ (.inr ⟨r, l, i, rfl, hx⟩) hxy h0
  | dead => simp only [convB, Option.some.injEq] at h; subst h; trivial

theorem xcall_sound {E : Env} {C : Ctx} {f : FuncId} {args : List IV} {vs : List Value} {K : IV → List Blk → Prop} (wf : Wf E.g0 C) (sim : Sim C) (hG : E.G C.w)
    (hl : args.length = vs.length) (hargs : ∀ (i : Nat) (x : IV), args[i]? = some x → VR C x (vs.getD i undef)) (h : xcallB E f args C.L K) :
    Bodied E.P f ∧ Calls E.P f vs.toArray C.w fun e w' => ∃ v, e = .returned v ∧ Post E C K v w' := by
  obtain ⟨b, args', hconv, hXT⟩ := h
  obtain ⟨X0, hXt, hXf⟩ : ∃ X0 : Nat → Prop, (b = true → X0 = C.X) ∧ (b = false → X0 = C.own) := by
    cases b
    · exact ⟨C.own, by simp, fun _ => rfl⟩
    · exact ⟨C.X, fun _ => rfl, by simp⟩
  have hX0 : ∀ x, X0 x → C.own x := fun x hx => by
    cases b
    · rw [hXf rfl] at hx; exact hx
    · rw [hXt rfl] at hx; exact .inl hx
  have nomine : ∀ x, ¬ (⟨C.w, C.φ, [], X0⟩ : Ctx).mine x := fun x => by
    rintro ⟨s, k, hk, _⟩; simp at hk
  have wf0 : Wf E.g0 ⟨C.w, C.φ, [], X0⟩ :=
    ⟨fun s t k l hs _ _ _ _ => by simp at hs, fun x h => absurd h (nomine x), fun x _ => nomine x,
      fun x hx => (hX0 x hx).elim (wf.exlo x) (fun hm => mine_lt sim hm), wf.g⟩
  have hargs' : ∀ (i : Nat) (x : IV), args'[i]? = some x → VR ⟨C.w, C.φ, [], X0⟩ x (vs.getD i undef) := fun i y hi => by
    obtain ⟨x, h1, h2⟩ := mapO_get hconv i y hi
    refine conv_sound (C := C) (C' := ⟨C.w, C.φ, [], X0⟩) rfl sim (fun x hx => hx.elim (hX0 x) (fun h => absurd h (nomine x))) fuel _ x y _ ?_ h2 (hargs i x h1)
    intro s k hk
    cases b
    · refine ⟨fun hm => ?_, fun t hm => ?_⟩
      · simp [renNone] at hm
      · simp [renNone] at hm
    · refine ⟨fun _ ha hown => ?_, fun t hm => ?_⟩
      · rcases hown with hx | hx
        · rw [hXt rfl] at hx
          exact wf.apart _ hx ⟨s, k, hk, ha, rfl⟩
        · exact nomine _ hx
      · simp [renFreeze] at hm
  refine ⟨hXT.1, (hXT.2 C.w C.φ _ vs wf0 (fun s k hk => by simp at hk) hG ((mapO_len hconv).trans hl) hargs').mono ?_⟩
  rintro e w' ⟨r, L1, φ1, v, ⟨hnt, r', L1', hr', hL1', hK⟩, rfl, wf1, sim1, ext, hv⟩
  refine ⟨v, rfl, r', C.L ++ L1', shiftφ C φ1, hK, ?_⟩
  have hlen1 := mapO_len hL1'
  -- mine
  have hfresh : ∀ x, (⟨w', φ1, L1, X0⟩ : Ctx).mine x → C.w.heap.size ≤ x := fun x hx =>
    (ext.sub x hx).elim (fun h => absurd h (nomine x)) id
  have getL : ∀ s k, (C.L ++ L1')[s]? = some k → (s < C.L.length ∧ C.L[s]? = some k) ∨ (∃ t k0, s = C.L.length + t ∧ L1[t]? = some k0 ∧ convB L1 fuel (renShift C.L.length) k0 = some k) := fun s k hs => by
    rcases Nat.lt_or_ge s C.L.length with h1 | h1
    · rw [List.getElem?_append_left h1] at hs; exact .inl ⟨h1, hs⟩
    · rw [List.getElem?_append_right h1] at hs
      obtain ⟨k0, h2, h3⟩ := mapO_get hL1' _ k hs
      exact .inr ⟨s - C.L.length, k0, by omega, h2, h3⟩
  have hmine : ∀ x, (⟨w', shiftφ C φ1, C.L ++ L1', C.X⟩ : Ctx).mine x → C.mine x ∨ (⟨w', φ1, L1, X0⟩ : Ctx).mine x := by
    rintro x ⟨s, k, hk, ha, rfl⟩
    rcases getL s k hk with ⟨h1, h2⟩ | ⟨t, k0, rfl, h2, h3⟩
    · left; exact ⟨s, k, h2, ha, congrArg Loc.blk (shiftφ_lt h1).symm⟩
    · right; exact ⟨t, k0, h2, by rw [← convB_alive h3]; exact ha, congrArg Loc.blk (shiftφ_ge (C := C) (φ1 := φ1) (t := t)).symm⟩
  have hext : Ext C ⟨w', shiftφ C φ1, C.L ++ L1', C.X⟩ :=
    ⟨ext.size, fun x hx hm => ext.frame x hx (nomine x), fun x hx => (hmine x hx).imp id (hfresh x), fun s hs => shiftφ_lt hs, by simp, ext.cap, rfl, ext.os, ext.tape, ext.output⟩
  have hown1 : b = false → ∀ x, (⟨w', shiftφ C φ1, C.L ++ L1', C.X⟩ : Ctx).own x → (⟨w', φ1, L1, X0⟩ : Ctx).own x := by
    rintro rfl x (hx | hx)
    · exact .inl (by rw [hXf rfl]; exact .inl hx)
    · rcases hmine x hx with h1 | h1
      · exact .inl (by rw [hXf rfl]; exact .inr h1)
      · exact .inr h1
  have hren : ∀ s, s < L1.length → ∃ t, renShift C.L.length s = some (some t) ∧ t < (C.L ++ L1').length ∧ shiftφ C φ1 t = φ1 s := fun s hs =>
    ⟨s + C.L.length, rfl, by simp [hlen1]; omega, by rw [Nat.add_comm]; exact shiftφ_ge⟩
  have hvr : ∀ x x' u, (b = true → noTree x = true) → conv L1 fuel (renShift C.L.length) x = some x' → VR ⟨w', φ1, L1, X0⟩ x u →
      VR ⟨w', shiftφ C φ1, C.L ++ L1', C.X⟩ x' u := fun x x' u hx hc hu => by
    cases b
    · refine conv_sound (C := ⟨w', φ1, L1, X0⟩) (C' := ⟨w', shiftφ C φ1, C.L ++ L1', C.X⟩) rfl sim1 (hown1 rfl) fuel _ x x' u ?_ hc hu
      intro s k hk
      refine ⟨fun hm => by simp [renShift] at hm, fun t hm => ?_⟩
      obtain ⟨t', h1, h2, h3⟩ := hren s (lt_of_get hk)
      rw [h1] at hm
      obtain rfl : t' = t := by simpa using hm
      exact ⟨h2, h3⟩
    · exact conv_ren (C := ⟨w', φ1, L1, X0⟩) (C' := ⟨w', shiftφ C φ1, C.L ++ L1', C.X⟩) rfl fuel _ x x' u hren (hx rfl) hc hu
  refine ⟨⟨?_, ?_, ?_, ?_, ?_⟩, ?_, hext, hvr r r' v (fun hb => (hnt hb).1) hr' hv⟩
  · -- inj
    intro s t ks kt hs ht as at_ heq
    rcases getL s ks hs with ⟨h1, h2⟩ | ⟨s0, k0, rfl, h2, h3⟩ <;> rcases getL t kt ht with ⟨h4, h5⟩ | ⟨t0, l0, rfl, h5, h6⟩
    · simp only [shiftφ_lt h1, shiftφ_lt h4] at heq
      exact wf.inj s t ks kt h2 h5 as at_ heq
    · have hlt := mine_lt sim ⟨s, ks, h2, as, rfl⟩
      have hge := hfresh _ ⟨t0, l0, h5, by rw [← convB_alive h6]; exact at_, rfl⟩
      simp only [shiftφ_lt h1, shiftφ_ge] at heq
      rw [heq] at hlt; exact absurd hlt (Nat.not_lt.2 hge)
    · have hlt := mine_lt sim ⟨t, kt, h5, at_, rfl⟩
      have hge := hfresh _ ⟨s0, k0, h2, by rw [← convB_alive h3]; exact as, rfl⟩
      simp only [shiftφ_lt h4, shiftφ_ge] at heq
      rw [← heq] at hlt; exact absurd hlt (Nat.not_lt.2 hge)
    · have := wf1.inj s0 t0 k0 l0 h2 h5 (by rw [← convB_alive h3]; exact as) (by rw [← convB_alive h6]; exact at_) (by simpa only [shiftφ_ge] using heq)
      omega
  · exact fun x hx => (hmine x hx).elim (wf.lo x) (fun h => Nat.le_trans wf.g (hfresh x h))
  · exact fun x hx hm => (hmine x hm).elim (wf.apart x hx) (fun h => by have h1 := wf.exlo x hx; have h2 := hfresh x h; omega)
  · exact fun x hx => Nat.lt_of_lt_of_le (wf.exlo x hx) ext.size
  · exact Nat.le_trans wf.g ext.size
  · -- sim
    intro s k hk
    rcases getL s k hk with ⟨h1, h2⟩ | ⟨t, k0, rfl, h2, h3⟩
    · have h4 := sim s k h2
      by_cases ha : k.alive = true
      · exact h4.mono hext h1 (ext.frame _ (mine_lt sim ⟨s, k, h2, ha, rfl⟩) (nomine _))
      · cases k <;> first | trivial | (exfalso; exact ha rfl)
    · refine convB_ok (C := ⟨w', φ1, L1, X0⟩) (s := t) rfl shiftφ_ge ?_ h3 (sim1 t k0 h2)
      intro x x' u hx hc hu
      refine hvr x x' u (fun hb => ?_) hc hu
      have h5 := (hnt hb).2
      rw [List.all_eq_true] at h5
      have h6 := h5 k0 (List.mem_of_getElem? h2)
      rcases hx with ⟨sz, rows, rfl, i, j, row, h7, h8⟩ | ⟨_, _, _, rfl, _⟩
      case inr => cases h6
      simp only [noTreeB, List.all_eq_true] at h6
      exact noTreeL_iff.1 (h6 row (List.mem_of_getElem? h7)) j x h8

end Go.X
