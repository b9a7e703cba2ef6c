/- Parts of the proof: XMerge, XDone, XRace, XSimp. -/
import Derived.Test.YtepkimlnaoaboabGreatDoorXP8
set_option linter.unusedVariables false
set_option linter.unusedSimpArgs false
set_option linter.unusedSectionVars false
section
/- The calculus X, part 19: 'a and b', 'a or b' as one truth. -/
namespace Go.X
open Go
def memN : List Nat → Nat → Bool
  | [], _ => false
  | a :: r, n => if n = a then true else memN r n
/-- Numbers of which nothing is known any more. -/
def hav (W : List Nat) (vs : Rho) (ρ : Rho) : Rho := fun n => if memN W n = true then vs n else ρ n
/-- The operations that hang on slot g. -/
def cutK (g : Nat) (w : Bool) : List XOper → List Nat → List XOper → (List XOper → List Nat → List XOper → Prop) → Prop
  | [], S, acc, F => F acc S []
  | o :: r, S, acc, F => match o with
    | ⟨some d, op, some (t, w')⟩ => if memN S t = true ∧ (t = g → w' = w) ∧ d ≠ g then cutK g w r (d :: S) (acc ++ [⟨some d, op, some (t, w')⟩]) F else F acc S (⟨some d, op, some (t, w')⟩ :: r)
    | o => F acc S (o :: r)
def act (ρ : Rho) (S : List Nat) : Option (Nat × Bool) → Prop
  | none => True
  | some (t, w) => ρ t = .bool w ∧ memN S t = false
section
variable {E : Env} {ρ : Rho} {L : List Blk} {KX : XE → Rho → List Blk → Prop} {KR : Rho → List Blk → Prop}

theorem hav_agree {W : List Nat} {ρ ρ' : Rho} (h : ∀ n, memN W n = false → ρ' n = ρ n) : ρ' = hav W ρ' ρ := by
  funext n
  simp only [hav]
  by_cases hn : memN W n = true
  · rw [if_pos hn]
  · rw [if_neg hn]; exact h n (by simpa using hn)

/-- Operations write what they say. -/
theorem xops_frame : ∀ (G : List XOper) (S : List Nat) (ρ ρ0 : Rho) (L : List Blk) (K : Rho → List Blk → Prop), (∀ o ∈ G, ∀ d, o.dst = some d → memN S d = true) → (∀ n, memN S n = false → ρ n = ρ0 n) → xops E G ρ L K →
    xops E G ρ L fun ρ' L' => K ρ' L' ∧ ∀ n, memN S n = false → ρ' n = ρ0 n
  | [], S, ρ, ρ0, L, K, _, h0, h => ⟨h, h0⟩
  | o :: r, S, ρ, ρ0, L, K, hS, h0, h => by
    have hput : ∀ v, ∀ n, memN S n = false → put ρ o.dst v n = ρ0 n := by
      intro v n hn
      cases hd : o.dst with
      | none => exact h0 n hn
      | some d =>
        simp only [put]
        rw [if_neg (fun hnd => ?_)]
        · exact h0 n hn
        · subst hnd; rw [hS o List.mem_cons_self n hd] at hn; cases hn
    have hr := fun v L' h => xops_frame r S (put ρ o.dst v) ρ0 L' K (fun o' ho' => hS o' (List.mem_cons_of_mem _ ho')) (hput v) h
    simp only [xops] at h ⊢
    split at h
    · exact xop_mono (fun v L' h => hr v L' h) h
    · rename_i t want hg
      split at h
      · exact ⟨fun hw => xop_mono (fun v L' h => hr v L' h) (h.1 hw), fun hw => hr _ _ (h.2 hw)⟩
      · exact hr _ _ h
      · exact h.elim

theorem xops_append : ∀ {a b : List XOper} {ρ : Rho} {L : List Blk} {K : Rho → List Blk → Prop}, xops E a ρ L (fun ρ' L' => xops E b ρ' L' K) → xops E (a ++ b) ρ L K
  | [], _, _, _, _, h => h
  | o :: a, b, ρ, L, K, h => by
    simp only [List.cons_append, xops] at *
    split at h
    · exact xop_mono (fun v L' h => xops_append h) h
    · split at h
      · exact ⟨fun hw => xop_mono (fun v L' h => xops_append h) (h.1 hw), fun hw => xops_append (h.2 hw)⟩
      · exact xops_append h
      · exact h.elim

/-- What hangs on g: where it is not so, nothing is done. -/
def Hang (g : Nat) (w : Bool) : List Nat → List XOper → Prop
  | _, [] => True
  | S, o :: r => ∃ d t w', o.dst = some d ∧ o.guard = some (t, w') ∧ memN S t = true ∧ (t = g → w' = w) ∧ d ≠ g ∧ Hang g w (d :: S) r

theorem hang_skip {g : Nat} {w : Bool} : ∀ {G : List XOper} {S : List Nat} {ρ : Rho} {L : List Blk} {K : Rho → List Blk → Prop}, Hang g w S G → ρ g = .bool (!w) → (∀ t, memN S t = true → t = g ∨ ρ t = .und) →
    (∀ ρ', (∀ n, (∀ o ∈ G, o.dst ≠ some n) → ρ' n = ρ n) → ρ' g = .bool (!w) → K ρ' L) → xops E G ρ L K
  | [], _, _, _, _, _, hg, _, hk => hk _ (fun _ _ => rfl) hg
  | o :: r, S, ρ, L, K, hG, hg, hS, hk => by
    obtain ⟨d, t, w', h1, h2, h3, h4, h5, h6⟩ := hG
    have hg' : put ρ o.dst .und g = .bool (!w) := by rw [h1]; simp only [put]; rw [if_neg (Ne.symm h5)]; exact hg
    have hrest : xops E r (put ρ o.dst .und) L K := by
      refine hang_skip h6 hg' (fun t ht => ?_) (fun ρ' hρ' h7 => hk ρ' (fun n hn => ?_) h7)
      · rw [h1]
        simp only [put]
        by_cases htd : t = d
        · rw [if_pos htd]; exact Or.inr rfl
        · rw [if_neg htd]
          simp only [memN, if_neg htd] at ht
          exact hS t ht
      · rw [hρ' n (fun o' ho' => hn o' (List.mem_cons_of_mem _ ho')), h1]
        simp only [put]
        rw [if_neg]
        intro hnd; subst hnd
        exact hn o List.mem_cons_self h1
    simp only [xops, h2]
    rcases hS t h3 with rfl | ht
    · rw [hg]
      rw [h4 rfl]
      exact ⟨fun h => absurd h (by cases w <;> simp), fun _ => hrest⟩
    · rw [ht]; exact hrest

theorem cutK_elim {g : Nat} {w : Bool} : ∀ {l : List XOper} {S : List Nat} {acc : List XOper} {F : List XOper → List Nat → List XOper → Prop}, cutK g w l S acc F →
    ∃ G S' rest, l = G ++ rest ∧ F (acc ++ G) S' rest ∧ Hang g w S G ∧ (∀ n, memN S n = true → memN S' n = true) ∧ (∀ o ∈ G, ∀ d, o.dst = some d → memN S' d = true)
  | [], S, acc, F, h => ⟨[], S, [], rfl, by simpa [cutK] using h, trivial, fun _ h => h, by simp⟩
  | o :: r, S, acc, F, h => by
    unfold cutK at h
    split at h
    · rename_i d op t w'
      split at h
      · rename_i hc
        obtain ⟨G, S', rest, h1, h2, h3, h4, h5⟩ := cutK_elim h
        refine ⟨⟨some d, op, some (t, w')⟩ :: G, S', rest, by rw [h1]; rfl, by simpa using h2, ⟨d, t, w', rfl, rfl, hc.1, hc.2.1, hc.2.2, h3⟩, fun n hn => h4 n ?_, ?_⟩
        · simp only [memN]; split
          · rfl
          · exact hn
        · intro o ho d' hd'
          rcases List.mem_cons.1 ho with rfl | ho
          · simp only [Option.some.injEq] at hd'; subst hd'
            exact h4 _ (by simp [memN])
          · exact h5 o ho d' hd'
      · exact ⟨[], S, _, rfl, by simpa using h, trivial, fun _ h => h, by simp⟩
    · exact ⟨[], S, _, rfl, by simpa using h, trivial, fun _ h => h, by simp⟩

/-- a and b, a or b: 'w': and. -/
def mergeV (w b y : Bool) : Bool := if w then b && y else b || y
def mergePick (g : Nat) (w : Bool) (v : Nat) : XO := if w then .pick (.t g) (.t v) (.c (.bool false)) else .pick (.t g) (.c (.bool true)) (.t v)

theorem s_merge {l : List XOper} {b w : Bool} (g : Nat) (hg : ρ g = .bool b)
    (h : cutK g w l [g] [] fun G S rest => ∃ r v gd rest' y, rest = ⟨some r, mergePick g w v, gd⟩ :: rest' ∧ act ρ S gd ∧ (b = w → xops E G ρ L fun ρ' L' => L' = L ∧ ρ' v = .bool y) ∧
      ∀ vs, xops E rest' (put (hav S vs ρ) (some r) (.bool (mergeV w b y))) L KR) : xops E l ρ L KR := by
  obtain ⟨G, S, rest, rfl, ⟨r, v, gd, rest', y, rfl, hact, h1, h2⟩, hH, hS, hd⟩ := cutK_elim h
  simp only [List.nil_append] at *
  have hgS : memN S g = true := hS g (by simp [memN])
  -- behind the group
  have key : ∀ ρ', (∀ n, memN S n = false → ρ' n = ρ n) → ρ' g = .bool b → (b = w → ρ' v = .bool y) → xops E (⟨some r, mergePick g w v, gd⟩ :: rest') ρ' L KR := by
    intro ρ' ha hg' hv
    have hρ : ρ' = hav S ρ' ρ := hav_agree ha
    have hfin : xop E (mergePick g w v) (Opd.ev ρ') L fun x L' => xops E rest' (put ρ' (some r) x) L' KR := by
      have h3 : xops E rest' (put ρ' (some r) (.bool (mergeV w b y))) L KR := by
        have := h2 ρ'
        rwa [← hρ] at this
      cases w
      · simp only [mergePick, Bool.false_eq_true, if_false, xop, Opd.ev, hg']
        cases b
        · simp only [Bool.false_eq_true, if_false]; rw [hv rfl]; simpa [mergeV] using h3
        · simpa [mergeV] using h3
      · simp only [mergePick, if_true, xop, Opd.ev, hg']
        cases b
        · simpa [mergeV] using h3
        · simp only [if_true]; rw [hv rfl]; simpa [mergeV] using h3
    cases gd with
    | none => exact hfin
    | some p =>
      obtain ⟨t, w'⟩ := p
      have h4 : ρ' t = .bool w' := (ha t hact.2).trans hact.1
      simp only [xops, h4]
      exact ⟨fun _ => hfin, fun h => absurd rfl h⟩
  refine xops_append ?_
  by_cases hb : b = w
  · have h3 := xops_frame G S ρ ρ L _ hd (fun _ _ => rfl) (h1 hb)
    have h4 : xops E G ρ L fun ρ' L' => ∀ n, (∀ o ∈ G, o.dst ≠ some n) → ρ' n = ρ n := by
      have h5 := xops_frame (E := E) G (G.filterMap (·.dst)) ρ ρ L _ (fun o ho d hd => ?_) (fun _ _ => rfl) (h1 hb)
      · refine xops_mono (fun ρ' L' h => ?_) h5
        intro n hn
        refine h.2 n ?_
        have : ∀ l : List Nat, n ∉ l → memN l n = false := by
          intro l
          induction l with
          | nil => intro _; rfl
          | cons x l ih => intro hx; simp only [List.mem_cons, not_or] at hx; simp only [memN, if_neg hx.1]; exact ih hx.2
        apply this
        intro hmem
        rw [List.mem_filterMap] at hmem
        obtain ⟨o, ho, h6⟩ := hmem
        exact hn o ho h6
      · have : ∀ l : List Nat, d ∈ l → memN l d = true := by
          intro l
          induction l with
          | nil => intro h; cases h
          | cons x l ih =>
            intro hx
            simp only [memN]
            split
            · rfl
            · rename_i hne
              rcases List.mem_cons.1 hx with h | h
              · exact absurd h hne
              · exact ih h
        exact this _ (List.mem_filterMap.2 ⟨o, ho, hd⟩)
    have hgd : ∀ o ∈ G, o.dst ≠ some g := by
      have : ∀ {G : List XOper} {S : List Nat}, Hang g w S G → ∀ o ∈ G, o.dst ≠ some g := by
        intro G
        induction G with
        | nil => intro S _ o ho; cases ho
        | cons o G ih =>
          intro S hH o' ho'
          obtain ⟨d, t, w', h1, _, _, _, h5, h6⟩ := hH
          rcases List.mem_cons.1 ho' with rfl | ho'
          · rw [h1]; simpa using h5
          · exact ih h6 o' ho'
      exact this hH
    have h7 := xops_frame (E := E) G (S.filter (· ≠ g)) ρ ρ L _ (fun o ho d hd' => ?_) (fun _ _ => rfl) h3
    · refine xops_mono (fun ρ' L' h => ?_) h7
      obtain ⟨⟨⟨rfl, hv⟩, ha⟩, hb'⟩ := h
      refine key ρ' ha ?_ (fun _ => hv)
      rw [hb' g ?_, hg]
      have : ∀ l : List Nat, memN (l.filter (· ≠ g)) g = false := by
        intro l
        induction l with
        | nil => rfl
        | cons x l ih =>
          simp only [List.filter_cons]
          split
          · rename_i hx
            simp only [memN]
            rw [if_neg (fun h => by subst h; simp at hx)]
            exact ih
          · exact ih
      exact this S
    · have h8 := hd o ho d hd'
      have h9 : d ≠ g := fun h => by subst h; exact hgd o ho hd'
      have : ∀ l : List Nat, memN l d = true → memN (l.filter (· ≠ g)) d = true := by
        intro l
        induction l with
        | nil => intro h; exact h
        | cons x l ih =>
          intro h
          simp only [List.filter_cons]
          simp only [memN] at h
          by_cases hx : d = x
          · subst hx
            rw [if_pos (by simpa using h9)]
            simp [memN]
          · rw [if_neg hx] at h
            split
            · simp only [memN, if_neg hx]; exact ih h
            · exact ih h
      exact this S h8
  · have hgw : ρ g = .bool (!w) := by
      rw [hg]
      cases b <;> cases w <;> first | rfl | exact absurd rfl hb
    have hS0 : ∀ t, memN [g] t = true → t = g ∨ ρ t = .und := by
      intro t ht
      by_cases h : t = g
      · exact Or.inl h
      · simp [memN, h] at ht
    refine hang_skip hH hgw hS0 (fun ρ' ha hg' => ?_)
    refine key ρ' (fun n hn => ha n (fun o ho h => ?_)) ?_ (fun h => absurd h hb)
    · rw [hd o ho n h] at hn; cases hn
    · rw [hg']; congr 1; cases b <;> cases w <;> simp_all

@[go_sem] theorem memN_nil {n : Nat} : memN [] n = false := nr rfl
@[go_sem] theorem memN_cons {a n : Nat} {r : List Nat} : memN (a :: r) n = if n = a then true else memN r n := nr rfl
@[go_sem] theorem hav_get {W : List Nat} {vs : Rho} {n : Nat} : hav W vs ρ n = if memN W n = true then vs n else ρ n := nr rfl
@[go_sem] theorem act_none {S : List Nat} : act ρ S none = True := nr rfl
@[go_sem] theorem act_some {S : List Nat} {t : Nat} {w : Bool} : act ρ S (some (t, w)) = (ρ t = .bool w ∧ memN S t = false) := nr rfl
theorem cut_g {g : Nat} {w : Bool} {d : Nat} {op : XO} {r : List XOper} {S : List Nat} {acc : List XOper} {F : List XOper → List Nat → List XOper → Prop} (h : memN S g = true) (hd : ¬ d = g) :
    cutK g w (⟨some d, op, some (g, w)⟩ :: r) S acc F = cutK g w r (d :: S) (acc ++ [⟨some d, op, some (g, w)⟩]) F := by
  rw [cutK]; rw [if_pos ⟨h, fun _ => rfl, hd⟩]
theorem cut_t {g t : Nat} {w w' : Bool} {d : Nat} {op : XO} {r : List XOper} {S : List Nat} {acc : List XOper} {F : List XOper → List Nat → List XOper → Prop} (ht : ¬ t = g) (h : memN S t = true) (hd : ¬ d = g) :
    cutK g w (⟨some d, op, some (t, w')⟩ :: r) S acc F = cutK g w r (d :: S) (acc ++ [⟨some d, op, some (t, w')⟩]) F := by
  rw [cutK]; rw [if_pos ⟨h, fun h => absurd h ht, hd⟩]
theorem cut_out {g t : Nat} {w w' : Bool} {d : Nat} {op : XO} {r : List XOper} {S : List Nat} {acc : List XOper} {F : List XOper → List Nat → List XOper → Prop} (h : memN S t = false) :
    cutK g w (⟨some d, op, some (t, w')⟩ :: r) S acc F = F acc S (⟨some d, op, some (t, w')⟩ :: r) := by
  rw [cutK]; rw [if_neg (by simp [h])]
theorem cut_none {g : Nat} {w : Bool} {d : Option Nat} {op : XO} {r : List XOper} {S : List Nat} {acc : List XOper} {F : List XOper → List Nat → List XOper → Prop} :
    cutK g w (⟨d, op, none⟩ :: r) S acc F = F acc S (⟨d, op, none⟩ :: r) := by
  unfold cutK; cases d <;> rfl
theorem s_mg {d : Option Nat} {o : XO} {r : List XOper} {g : Nat} {b w : Bool} (hg : ρ g = .bool b)
    (h : cutK g w (⟨d, o, some (g, w)⟩ :: r) [g] [] fun G S rest => ∃ r v gd rest' y, rest = ⟨some r, mergePick g w v, gd⟩ :: rest' ∧ act ρ S gd ∧ (b = w → xops E G ρ L fun ρ' L' => L' = L ∧ ρ' v = .bool y) ∧
      ∀ vs, xops E rest' (put (hav S vs ρ) (some r) (.bool (mergeV w b y))) L KR) : xops E (⟨d, o, some (g, w)⟩ :: r) ρ L KR := s_merge g hg h
theorem ex_merge {A : List XOper} {g r v : Nat} {gd : Option (Nat × Bool)} {rest' : List XOper} {G : List XOper} {S : List Nat} {w b y : Bool} (h1 : A = ⟨some r, mergePick g w v, gd⟩ :: rest') (h2 : act ρ S gd)
    (h3 : b = w → xops E G ρ L fun ρ' L' => L' = L ∧ ρ' v = .bool y) (h4 : ∀ vs, xops E rest' (put (hav S vs ρ) (some r) (.bool (mergeV w b y))) L KR) :
    ∃ r v gd rest' y, A = ⟨some r, mergePick g w v, gd⟩ :: rest' ∧ act ρ S gd ∧ (b = w → xops E G ρ L fun ρ' L' => L' = L ∧ ρ' v = .bool y) ∧
      ∀ vs, xops E rest' (put (hav S vs ρ) (some r) (.bool (mergeV w b y))) L KR := ⟨r, v, gd, rest', y, h1, h2, h3, h4⟩
@[go_sem] theorem mergeT {b y : Bool} : mergeV true b y = (b && y) := nr rfl
@[go_sem] theorem mergeF {b y : Bool} : mergeV false b y = (b || y) := nr rfl
end
end Go.X
end
section
/- The calculus X, part 20: a function's contract out of a run: one that only computes. -/
namespace Go.X
open Go
section
variable {E : Env} {ρ : Rho} {L : List Blk}
def doneK (Q : Rho → List Blk → Prop) : XE → Rho → List Blk → Prop
  | .normal, ρ, L => Q ρ L
  | .ret, ρ, L => Q ρ L
  | _, _, _ => False
@[go_sem ↓] theorem done_ret {Q : Rho → List Blk → Prop} : doneK Q .ret ρ L = Q ρ L := nr rfl
@[go_sem ↓] theorem done_normal {Q : Rho → List Blk → Prop} : doneK Q .normal ρ L = Q ρ L := nr rfl

/-- One answer, in slot t. -/
theorem xpure1 {f : FuncId} {fn : Func} {t n : Nat} {c : XC} {args : List IV} {r : IV} (hf : E.P.funcs[f]? = some fn) (hF : compFn E.P fn = some ⟨n, [.tmp t], c⟩) (hnm : fn.name ≠ "runtime.NumGoroutine")
    (hargs : args.length ≤ fn.ntmps) (h : xrun E.noPan c (entry args) [] (doneK fun ρ L' => conv L' fuel renFreeze (ρ t) = some r)) : XPure E f args r := by
  refine xpure_of_fun hf hF hnm hargs (xrun_mono _ (fun e ρ L h => ?_) h)
  cases e with
  | normal => exact ⟨Or.inr rfl, h⟩
  | ret => exact ⟨Or.inl rfl, h⟩
  | exit => exact h.elim
  | goto => exact h.elim

/-- Two answers. -/
theorem xpure2 {f : FuncId} {fn : Func} {t t' n : Nat} {c : XC} {args : List IV} {r r' : IV} (hf : E.P.funcs[f]? = some fn) (hF : compFn E.P fn = some ⟨n, [.tmp t, .tmp t'], c⟩) (hnm : fn.name ≠ "runtime.NumGoroutine")
    (hargs : args.length ≤ fn.ntmps) (h : xrun E.noPan c (entry args) [] (doneK fun ρ L' => conv L' 11 renFreeze (ρ t) = some r ∧ conv L' 11 renFreeze (ρ t') = some r')) : XPure E f args (.tup [r, r']) := by
  refine xpure_of_fun hf hF hnm hargs (xrun_mono _ (fun e ρ L h => ?_) h)
  have key : conv L 11 renFreeze (ρ t) = some r ∧ conv L 11 renFreeze (ρ t') = some r' → xresults E.noPan [.tmp t, .tmp t'] ρ L fun r0 => conv L fuel renFreeze r0 = some (.tup [r, r']) := by
    rintro ⟨h1, h2⟩
    show conv L 12 renFreeze (.tup [ρ t, ρ t']) = _
    simp only [conv, mapO, h1, h2]; rfl
  cases e with
  | normal => exact ⟨Or.inr rfl, key h⟩
  | ret => exact ⟨Or.inl rfl, key h⟩
  | exit => exact h.elim
  | goto => exact h.elim
end
end Go.X
end
section
/- The calculus X, part 21a: steps through a region with several effects. -/
namespace Go.X
open Go
def inN (i : Nat) : List Nat → Bool
  | [] => false
  | a :: r => if i = a then true else inN i r
theorem inN_iff {i : Nat} : ∀ {l : List Nat}, inN i l = true ↔ i ∈ l
  | [] => by simp [inN]
  | a :: r => by
    unfold inN
    by_cases h : i = a
    · simp [h]
    · rw [if_neg h, inN_iff]; simp [h]
def ninP (a : Nat) : List Nat → Prop
  | [] => True
  | b :: l => a ≠ b ∧ ninP a l
def sepL : List Nat → List Nat → Prop
  | [], _ => True
  | a :: r, l => ninP a l ∧ sepL r l
theorem ninP_iff {a : Nat} : ∀ {l : List Nat}, ninP a l ↔ a ∉ l
  | [] => by simp [ninP]
  | b :: l => by simp [ninP, ninP_iff]
theorem sepL_iff {l : List Nat} : ∀ {r : List Nat}, sepL r l ↔ ∀ i ∈ r, i ∉ l
  | [] => by simp [sepL]
  | a :: r => by simp [sepL, ninP_iff, sepL_iff]
theorem ap_sep {r1 w1 r2 w2 : List Nat} : Ap r1 w1 r2 w2 = (sepL w1 r2 ∧ sepL w1 w2 ∧ sepL w2 r1) := by
  simp only [Ap, sepL_iff, eq_iff_iff]
  constructor
  · rintro ⟨h1, h2⟩; exact ⟨fun i h => (h1 i h).1, fun i h => (h1 i h).2, fun i h => (h2 i h).1⟩
  · rintro ⟨h1, h2, h3⟩; exact ⟨fun i h => ⟨h1 i h, h2 i h⟩, fun i h => ⟨h3 i h, fun h4 => h2 i h4 h⟩⟩
theorem chk_cons {chk r w : List Nat} {i : Nat} {r1 w1 : List Nat} {lg : List (Nat × List Nat × List Nat)} : chkL chk r w ((i, r1, w1) :: lg) = ((if inN i chk = true then (sepL w1 r ∧ sepL w1 w ∧ sepL w r1) else True) ∧ chkL chk r w lg) := by
  simp only [chkL, ap_sep, ← inN_iff]
  by_cases h : inN i chk = true <;> simp [h]
theorem rd_sub {o : XO} {e : Opd → IV} {L : List Blk} : (o.sub e).rd cev L = o.rd e L := by
  cases o <;> first
    | rfl
    | (simp only [XO.sub, XO.rd, cev_c, subL_map]; done)
    | (rename_i k xs
       cases k <;> first
         | rfl
         | (have h := congrArg (List.flatMap slS) (subL_map (e := e) (l := xs))
            simpa only [List.flatMap_map, XO.sub, XO.rd] using h))
theorem wr_sub {o : XO} {e : Opd → IV} : (o.sub e).wr cev = o.wr e := by cases o <;> rfl
theorem new_sub {o : XO} {e : Opd → IV} {L L' : List Blk} : newS (o.sub e) L L' = newS o L L' := by cases o <;> rfl
theorem chk_none {r w : List Nat} : ∀ {lg : List (Nat × List Nat × List Nat)}, chkL [] r w lg
  | [] => trivial
  | (i, r1, w1) :: lg => ⟨fun h => by simp at h, chk_none⟩
/-- Feet. -/
def feetR (o : XO) (L L' : List Blk) : List Nat := o.rd cev L ++ newS o L L'
def feetW (o : XO) (L L' : List Blk) : List Nat := o.wr cev ++ newS o L L'
section
variable {E : Env} {ρ : Rho} {L L' : List Blk} {KX : XE → Rho → List Blk → Prop} {KR : Rho → List Blk → Prop} {i : Nat} {lg : List (Nat × List Nat × List Nat)}
@[congr] theorem xopsD_congr {l : List (XOper × List Nat × Bool)} {ρ' : Rho} {L' : List Blk} {i' : Nat} {lg' : List (Nat × List Nat × List Nat)} (hi : same i = i') (hg : same lg = lg') (h : same ρ = ρ') (hL : same L = L') : xopsD E i lg l ρ L KR = xopsD E i' lg' l ρ' L' KR := by rw [← hi, ← hg, ← h, ← hL]; rfl
@[go_sem ↓] theorem s_drawR {l : List (XOper × List Nat × Bool)} : xrun E (.drawR l) ρ L KX = xopsD E 0 [] l ρ L fun ρ' L' => KX .normal ρ' L' := nr rfl
@[go_sem ↓] theorem s_dnil : xopsD E i lg [] ρ L KR = KR ρ L := nr rfl
@[go_sem ↓] theorem s_dplain {d : Option Nat} {o : XO} {r : List (XOper × List Nat × Bool)} : xopsD E i lg ((⟨d, o, none⟩, [], false) :: r) ρ L KR = xop E (o.sub (Opd.ev ρ)) cev L fun v L' => xopsD E (i + 1) lg r (put ρ d v) L' KR := by
  rw [← xop_sub]
  simp only [xopsD, Bool.false_eq_true, if_false]
  congr 1
  funext v L'
  simp [chk_none, same_eq]
@[go_sem ↓] theorem s_dkeep {d : Option Nat} {o : XO} {r : List (XOper × List Nat × Bool)} {chk : List Nat} : xopsD E i lg ((⟨d, o, none⟩, chk, true) :: r) ρ L KR = xop E (o.sub (Opd.ev ρ)) cev L fun v L' =>
    chkL chk (feetR (o.sub (Opd.ev ρ)) L L') (feetW (o.sub (Opd.ev ρ)) L L') lg ∧ xopsD E (i + 1) ((i, feetR (o.sub (Opd.ev ρ)) L L', feetW (o.sub (Opd.ev ρ)) L L') :: lg) r (put ρ d v) L' KR := by
  rw [← xop_sub]
  simp only [xopsD, if_true]
  congr 1
  funext v L'
  simp only [same_eq, feetR, feetW, rd_sub, wr_sub, new_sub]
@[go_sem ↓] theorem s_dchk {d : Option Nat} {o : XO} {r : List (XOper × List Nat × Bool)} {c : Nat} {chk : List Nat} : xopsD E i lg ((⟨d, o, none⟩, c :: chk, false) :: r) ρ L KR = xop E (o.sub (Opd.ev ρ)) cev L fun v L' =>
    chkL (c :: chk) (feetR (o.sub (Opd.ev ρ)) L L') (feetW (o.sub (Opd.ev ρ)) L L') lg ∧ xopsD E (i + 1) lg r (put ρ d v) L' KR := by
  rw [← xop_sub]
  simp only [xopsD, Bool.false_eq_true, if_false]
  congr 1
  funext v L'
  simp only [same_eq, feetR, feetW, rd_sub, wr_sub, new_sub]
@[go_sem ↓] theorem s_dgdo {d : Option Nat} {o : XO} {r : List (XOper × List Nat × Bool)} {chk : List Nat} {keep : Bool} {t : Nat} {w : Bool} (h : ρ t = .bool w) :
    xopsD E i lg ((⟨d, o, some (t, w)⟩, chk, keep) :: r) ρ L KR = xopsD E i lg ((⟨d, o, none⟩, chk, keep) :: r) ρ L KR := by
  simp [xopsD, h, same_eq]
@[go_sem ↓] theorem s_dgskip {d : Option Nat} {o : XO} {r : List (XOper × List Nat × Bool)} {chk : List Nat} {keep : Bool} {t : Nat} {w : Bool} (h : ρ t = .bool (!w)) :
    xopsD E i lg ((⟨d, o, some (t, w)⟩, chk, keep) :: r) ρ L KR = xopsD E (i + 1) lg r (put ρ d .und) L KR := by
  cases w <;> simp [xopsD, h, same_eq]
@[go_sem ↓] theorem s_dgund {d : Option Nat} {o : XO} {r : List (XOper × List Nat × Bool)} {chk : List Nat} {keep : Bool} {t : Nat} {w : Bool} (h : ρ t = .und) :
    xopsD E i lg ((⟨d, o, some (t, w)⟩, chk, keep) :: r) ρ L KR = xopsD E (i + 1) lg r (put ρ d .und) L KR := by
  simp [xopsD, h, same_eq]
attribute [go_sem] chk_cons
@[go_sem] theorem chk_nil {chk r w : List Nat} : chkL chk r w [] = True := nr rfl
@[go_sem] theorem in_nil : inN i [] = false := nr rfl
@[go_sem] theorem in_cons {a : Nat} {r : List Nat} : inN i (a :: r) = if i = a then true else inN i r := nr rfl
@[go_sem] theorem nin_nil {a : Nat} : ninP a [] = True := nr rfl
@[go_sem] theorem nin_cons {a b : Nat} {l : List Nat} : ninP a (b :: l) = (¬ a = b ∧ ninP a l) := nr rfl
@[go_sem] theorem sep_nil {l : List Nat} : sepL [] l = True := nr rfl
@[go_sem] theorem sep_cons {a : Nat} {r l : List Nat} : sepL (a :: r) l = (ninP a l ∧ sepL r l) := nr rfl
@[go_sem] theorem slP_ptr {s r o : Nat} : slP (.ptr s r o) = [s] := nr rfl
@[go_sem] theorem slP_iptr {rows : List (List IV)} {r o : Nat} : slP (.iptr rows r o) = [] := nr rfl
@[go_sem] theorem slP_raw {v : Value} : slP (.raw v) = [] := nr rfl
@[go_sem] theorem slS_sl {s off len cap : Nat} : slS (.sl s off len cap) = [s] := nr rfl
@[go_sem] theorem slS_isl {rows : List (List IV)} : slS (.isl rows) = [] := nr rfl
@[go_sem] theorem slS_nsl : slS .nsl = [] := nr rfl
@[go_sem] theorem slS_esl : slS .esl = [] := nr rfl
@[go_sem] theorem slS_str {s : List UInt8} : slS (.str s) = [] := nr rfl
section
variable {n sz len : Nat} {x y : IV} {z : List IV} {ps : List (Nat × Opd)} {lo hi : Option Opd} {f : Opd} {as : List Opd}
@[go_sem] theorem fr_load1 : feetR (.load1 (.c x)) L L' = slP x := by simp [feetR, XO.rd, newS, cev_c]
@[go_sem] theorem fw_load1 : feetW (.load1 (.c x)) L L' = [] := nr rfl
@[go_sem] theorem fr_loadN : feetR (.loadN n (.c x)) L L' = slP x := by simp [feetR, XO.rd, newS, cev_c]
@[go_sem] theorem fw_loadN : feetW (.loadN n (.c x)) L L' = [] := nr rfl
@[go_sem] theorem fr_idxS : feetR (.idxS n (.c x) (.c y)) L L' = slS x := by simp [feetR, XO.rd, newS, cev_c]
@[go_sem] theorem fw_idxS : feetW (.idxS n (.c x) (.c y)) L L' = [] := nr rfl
@[go_sem] theorem fr_slice : feetR (.slice n (.c x) lo hi) L L' = slS x := by simp [feetR, XO.rd, newS, cev_c]
@[go_sem] theorem fw_slice : feetW (.slice n (.c x) lo hi) L L' = [] := nr rfl
@[go_sem] theorem fw_pcall : feetW (.pcall f as) L L' = [] := nr rfl
@[go_sem] theorem fr_alloc : feetR (.alloc z) L L' = [L.length] := nr rfl
@[go_sem] theorem fw_alloc : feetW (.alloc z) L L' = [L.length] := nr rfl
@[go_sem] theorem fr_box : feetR (.box f) L L' = [L.length] := nr rfl
@[go_sem] theorem fw_box : feetW (.box f) L L' = [L.length] := nr rfl
@[go_sem] theorem fr_bslice : feetR (.bslice sz z len ps) L L' = [L.length] := nr rfl
@[go_sem] theorem fw_bslice : feetW (.bslice sz z len ps) L L' = [L.length] := nr rfl
@[go_sem] theorem fr_mkslice : feetR (.mkslice z n (.c x) (.c y)) L L' = [L.length] := nr rfl
@[go_sem] theorem fw_mkslice : feetW (.mkslice z n (.c x) (.c y)) L L' = [L.length] := nr rfl
@[go_sem] theorem fr_store : feetR (.store n (.c x) (.c y)) L L' = slP x := by simp [feetR, XO.rd, newS, cev_c]
@[go_sem] theorem fw_store : feetW (.store n (.c x) (.c y)) L L' = slP x := by simp [feetW, XO.wr, newS, cev_c]
@[go_sem] theorem fr_append : feetR (.append sz n (.c x) (.c y)) L L' = slS x ++ slS y ++ (if L'.length = L.length then [] else [L.length]) := by simp only [feetR, XO.rd, newS, cev_c]
@[go_sem] theorem fw_append : feetW (.append sz n (.c x) (.c y)) L L' = slS x ++ (if L'.length = L.length then [] else [L.length]) := by simp only [feetW, XO.wr, newS, cev_c]
end
end
end Go.X
end
section
/- The calculus X, part 21b: small equations that every walk uses. -/
namespace Go.X
theorem xrun_forget {E : Env} {c : XC} {ρ : Rho} {L : List Blk} {K : XE → Rho → List Blk → Prop} (F : Rho → Prop) (h0 : F ρ) (h : ∀ ρ, F ρ → xrun E c ρ L K) : xrun E c ρ L K := h ρ h0
section
variable {E : Env} {L : List Blk} {KV : IV → List Blk → Prop}
@[go_sem] theorem o_build0 {z : List IV} : xop E (.build z []) cev L KV = KV (.agg z) L := nr rfl
@[go_sem] theorem o_buildS {z : List IV} {off n : Nat} {x : IV} {r : List (Nat × Nat × Opd)} (h1 : (cellsOf x).length = n) (h2 : off + n ≤ z.length) :
    xop E (.build z ((off, n, .c x) :: r)) cev L KV = xop E (.build (splice z off (cellsOf x)) r) cev L KV := by
  simp only [xop, List.map_cons, cev_c, xfill]
  rw [if_pos ⟨h1, h2⟩]
end
attribute [go_sem] Bool.false_eq_true Bool.not_true Bool.not_false Bool.and_true Bool.true_and Bool.or_false Bool.false_or Bool.and_false Bool.false_and Bool.or_true Bool.true_or true_and and_true eq_self not_false_eq_true List.map_cons List.map_nil List.nil_append List.append_nil decide_true decide_false List.length_cons List.length_nil List.getD_cons_zero List.getD_cons_succ Int.cast_ofNat_Int Int.toNat_natCast Int.natCast_nonneg List.getElem?_cons_zero List.getElem?_cons_succ List.cons_append List.set_cons_zero List.set_cons_succ List.take_zero List.take_succ_cons List.drop_zero List.drop_succ_cons List.drop_nil List.take_nil List.all_cons List.all_nil Nat.zero_add Nat.zero_lt_one Nat.le_refl
end Go.X
end
