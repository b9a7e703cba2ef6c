/- The calculus X, part 23: a loop over a function: the rounds. -/
import Derived.Test.YtnejaochjehhgaaDoorXOut
set_option linter.unusedVariables false
set_option linter.unusedSimpArgs false
set_option linter.unusedSectionVars false
namespace Go.X
open Go

def rhoOf (l : List IV) : Rho := fun n => l.getD n .und
/-- The slots at a round's beginning. -/
def putPs (l : List IV) (ps : List Nat) (args : List IV) : List IV := (ps.zip args).foldl (fun t p => t.set p.1 p.2) l

def yEnd (r0 : Loop) (l : List IV) (s : Nat) (K : IV → List Blk → Prop) : XE → List Blk → Prop
  | .normal, L => K (.bool true) (L.set s (.lp r0 l))
  | .ret, L => K (.bool false) (L.set s (.lp { r0 with state := .done, pending := some .ret } l))
  | .exit i, L => K (.bool false) (L.set s (.lp { r0 with state := .done, pending := some (.exit i) } l))
  | .goto i, L => K (.bool false) (L.set s (.lp { r0 with state := .done, pending := some (.goto i) } l))

/-- A round of the loop. -/
def yOf (E : Env) (N : Nat) (ps : List Nat) (xa xb : XC) : YHand := fun s args L K =>
  ∃ r0 l, L[s]? = some (.lp r0 l) ∧ r0.state = .ready ∧ r0.pending = none ∧ LoopCode E.P N ps xa xb r0 ∧ args.length = ps.length ∧ (∀ p ∈ ps, p < N) ∧ noRng xa = true ∧ noRng xb = true ∧ l.length = N ∧
    xrun E xa (rhoOf (putPs l ps args)) L fun e1 ρ1 L1 => e1 = .normal ∧ L1[s]? = some (.lp r0 l) ∧
      xrun E xb ρ1 (L1.set s (.lp { r0 with state := .busy } l)) fun e _ L2 => L2[s]? = some (.lp { r0 with state := .busy } l) ∧ yEnd r0 l s K e L2

theorem yEnd_mono {r0 : Loop} {l : List IV} {s : Nat} {K K' : IV → List Blk → Prop} (hk : ∀ v L, K v L → K' v L) : ∀ {e : XE} {L : List Blk}, yEnd r0 l s K e L → yEnd r0 l s K' e L
  | .normal, _, h => hk _ _ h
  | .ret, _, h => hk _ _ h
  | .exit _, _, h => hk _ _ h
  | .goto _, _, h => hk _ _ h

theorem yOf_mono {E : Env} {N : Nat} {ps : List Nat} {xa xb : XC} (s : Nat) (args : List IV) (L : List Blk) (K K' : IV → List Blk → Prop) (hk : ∀ v L, K v L → K' v L) (h : yOf E N ps xa xb s args L K) : yOf E N ps xa xb s args L K' := by
  obtain ⟨r0, l, h1, h2, h3, h4, h5, h6, h7, h8, h9, h⟩ := h
  exact ⟨r0, l, h1, h2, h3, h4, h5, h6, h7, h8, h9, xrun_mono _ (fun e1 ρ1 L1 ⟨h10, h11, h12⟩ => ⟨h10, h11, xrun_mono _ (fun e _ L2 ⟨h13, h14⟩ => ⟨h13, yEnd_mono hk h14⟩) h12⟩) h⟩

theorem putPs_spec {C : Ctx} {N : Nat} : ∀ (ps : List Nat) (args : List IV) (vs : List Value) (l : List IV) (t : Array Value), args.length = ps.length → args.length = vs.length → (∀ p ∈ ps, p < N) → l.length = N → t.size = N →
    (∀ (i : Nat) (x : IV), args[i]? = some x → VR C x (vs.getD i undef)) → (∀ n, VR C (l.getD n .und) (t.getD n undef)) →
    ((ps.zip vs).foldl (fun t (p, a) => t.setIfInBounds p a) t).size = N ∧ ∀ n, VR C ((putPs l ps args).getD n .und) (((ps.zip vs).foldl (fun t (p, a) => t.setIfInBounds p a) t).getD n undef)
  | [], args, vs, l, t, h1, h2, _, _, ht, _, hl => by
    cases args with
    | nil => exact ⟨ht, hl⟩
    | cons => cases h1
  | p :: ps, args, vs, l, t, h1, h2, hp, hll, ht, hv, hl => by
    cases args with
    | nil => cases h1
    | cons x args => cases vs with
      | nil => cases h2
      | cons v vs =>
        simp only [putPs, List.zip_cons_cons, List.foldl_cons]
        refine putPs_spec ps args vs (l.set p x) (t.setIfInBounds p v) (by simpa using h1) (by simpa using h2) (fun q hq => hp q (List.mem_cons_of_mem _ hq)) (by simpa using hll) (by simpa using ht) (fun i y hi => by simpa using hv (i + 1) y (by simpa using hi)) (fun n => ?_)
        have hpN : p < N := hp p List.mem_cons_self
        rw [getD_set (by rw [ht]; exact hpN), List.getD_eq_getElem?_getD, List.getElem?_set]
        by_cases hn : n = p
        · subst hn
          rw [if_pos rfl, if_pos (by rw [hll]; exact hpN), if_pos rfl]
          exact hv 0 x rfl
        · rw [if_neg (Ne.symm hn), if_neg hn, ← List.getD_eq_getElem?_getD]
          exact hl n

theorem yOf_sound {E : Env} {N : Nat} {ps : List Nat} {xa xb : XC} (C : Ctx) (s : Nat) (args : List IV) (vs : List Value) (K : IV → List Blk → Prop) (wf : Wf E.g0 C) (sim : Sim C) (hG : E.G C.w) (hl : args.length = vs.length)
    (hv : ∀ (i : Nat) (x : IV), args[i]? = some x → VR C x (vs.getD i undef)) (h : yOf E N ps xa xb s args C.L K) :
    ∃ fn tmps asg body, (Instr.yield (C.φ s).blk vs.toArray).run E.P C.w = .ok (.round (C.φ s).blk fn tmps asg body) C.w ∧
      ∀ F, FOk F → RoundIn F 0 E.P (C.φ s).blk fn tmps asg body C.w fun e w' => ∃ v, e = .returned v ∧ PostG E.g0 C K v w' := by
  obtain ⟨r0, l, hL, hst, hpe, ⟨hps, hxa, hxb, hN⟩, hal, hpN, hna, hnb, hlN, h⟩ := h
  obtain ⟨hb, hlv⟩ := sim s _ hL
  have hsz : vs.toArray.size = r0.params.size := by rw [← Array.length_toList, ← Array.length_toList, hps]; simp [← hl, hal]
  refine ⟨_, _, _, _, run_yield hb hsz, fun F hF => ?_⟩
  have hF' : FOk (F.inRound (C.φ s).blk) := by
    rcases hF with rfl | ⟨l', rfl⟩
    · exact .inr ⟨_, rfl⟩
    · exact .inr ⟨_, rfl⟩
  obtain ⟨h1, h2⟩ := putPs_spec (C := C) (N := N) ps args vs l r0.tmps hal hl hpN hlN hN hv hlv
  have hfold : (r0.params.zip vs.toArray).foldl (fun tmps (x : Nat × Value) => tmps.setIfInBounds x.1 x.2) r0.tmps = (ps.zip vs).foldl (fun t (p : Nat × Value) => t.setIfInBounds p.1 p.2) r0.tmps := by
    rw [← Array.foldl_toList, Array.toList_zip, hps]
  refine roundIn_of_wpIn (hF.fn _) ?_
  refine xrun_sound (E := E) (N := N) hF' (C0 := C) wf hG (csize r0.assign) r0.assign (Nat.le_refl _) xa hxa (.inr hna) (rhoOf (putPs l ps args)) C.L _ _ _ C.w h
    ⟨by show Array.size _ = N; rw [← h1]; exact congrArg Array.size hfold, C.φ, wf, sim, Ext.refl C, fun n => by
      have := h2 n
      rw [← hfold] at this
      exact this, trivial⟩ ?_
  rintro e1 ρ1 L1 a1 w1 ⟨rfl, hL1, hrun⟩ ⟨hN1, φ1, wf1, sim1, ext1, hρ1, hd1⟩
  have hs1 : φ1 s = C.φ s := ext1.slot s (lt_of_get hL)
  obtain ⟨hb1, hlv1⟩ := sim1 s _ hL1
  have hb1' : w1.heap[(C.φ s).blk]? = some (.loop r0) := by rw [← hs1]; exact hb1
  have hne : ∀ (r : Loop) c e fr, Obj.loop r ≠ .cells c e fr := fun _ _ _ _ h => by cases h
  let C1 : Ctx := ⟨w1, φ1, L1, C.X⟩
  let C2 : Ctx := setC C1 s (.loop { r0 with state := .busy }) (.lp { r0 with state := .busy } l)
  have e2 : Ext C1 C2 := set_ext' hL1 rfl hb1 (hne _)
  have hw2 : C2.w = w1.putObj (C.φ s).blk (.loop { r0 with state := .busy }) := by
    show setW w1 (φ1 s).blk _ = _
    rw [hs1]; rfl
  have wf2 : Wf E.g0 C2 := set_wf wf1 hL1 rfl
  have sim2 : Sim C2 := set_sim' wf1 sim1 hL1 rfl hb1 (hne _) ⟨heap_set_eq (Array.getElem?_eq_some_iff.1 hb1).1, fun n => (hlv1 n).mono e2⟩
  refine ⟨C2.w, by rw [hw2]; exact run_beginRound hb1' hst, ?_⟩
  refine xrun_sound (E := E) (N := N) hF' (C0 := C) wf hG (csize r0.body) r0.body (Nat.le_refl _) xb hxb (.inr hnb) ρ1 _ _ _ a1 C2.w hrun ⟨hN1, φ1, wf2, sim2, ext1.trans e2, fun n => (hρ1 n).mono e2, hd1.mono e2⟩ ?_
  rintro e ρ2 L2 a2 w2 ⟨hL2, hend⟩ ⟨hN2, φ2, wf3, sim3, ext3, hρ3, hd3⟩
  have hs2 : φ2 s = C.φ s := ext3.slot s (lt_of_get hL)
  obtain ⟨hb2, hlv2⟩ := sim3 s _ hL2
  have hb2' : w2.heap[(C.φ s).blk]? = some (.loop { r0 with state := .busy }) := by rw [← hs2]; exact hb2
  let C3 : Ctx := ⟨w2, φ2, L2, C.X⟩
  have fin : ∀ (jump : Option Code) (r : Loop) (b : Bool), r = { r0 with state := if jump.isNone then .ready else .done, pending := jump } → b = jump.isNone → K (.bool b) (L2.set s (.lp r l)) →
      ∃ v w', (Instr.endRound (C.φ s).blk jump).run E.P w2 = .ok v w' ∧ ∃ v', Ending.returned v = .returned v' ∧ PostG E.g0 C K v' w' := by
    rintro jump r b rfl rfl hk
    let C4 : Ctx := setC C3 s (.loop { r0 with state := if jump.isNone then .ready else .done, pending := jump }) (.lp { r0 with state := if jump.isNone then .ready else .done, pending := jump } l)
    have e4 : Ext C3 C4 := set_ext' hL2 rfl hb2 (hne _)
    have hw4 : C4.w = w2.putObj (C.φ s).blk (.loop { r0 with state := if jump.isNone then .ready else .done, pending := jump }) := by
      show setW w2 (φ2 s).blk _ = _
      rw [hs2]; rfl
    refine ⟨.bool jump.isNone, C4.w, by rw [hw4]; exact run_endRound (r := { r0 with state := .busy }) jump hb2', _, rfl, .bool jump.isNone, C4.L, φ2, hk, set_wf wf3 hL2 rfl, ?_, ext3.trans e4, .bool _⟩
    exact set_sim' wf3 sim3 hL2 rfl hb2 (hne _) ⟨heap_set_eq (Array.getElem?_eq_some_iff.1 hb2).1, fun n => (hlv2 n).mono e4⟩
  cases e with
  | normal =>
    refine fin none r0 true ?_ rfl hend
    obtain ⟨st, pe, _, _, _, _, _, _⟩ := r0
    simp only at hst hpe; subst hst; subst hpe; rfl
  | ret => exact fin (some .ret) _ false rfl rfl hend
  | exit i => exact fin (some (.exit i)) _ false rfl rfl hend
  | goto i => exact fin (some (.goto i)) _ false rfl rfl hend

/-- The iterator's environment. -/
def Env.withY (E : Env) (N : Nat) (ps : List Nat) (xa xb : XC) : Env :=
  { E with yl := yOf E N ps xa xb, hylm := yOf_mono, hyl := fun C s args vs K wf sim hG hl hv h => yOf_sound C s args vs K wf sim hG hl hv h }

/-- THE LOOP OVER A FUNCTION: the iterator's body, in place. -/
theorem s_rngF {E : Env} {ρ : Rho} {L : List Blk} {K : XE → Rho → List Blk → Prop} {g : Opd} {N : Nat} {ps : List Nat} {xa xb : XC} {gf : FuncId} {caps : List IV} {fn : Func} {F : XFn} (hg : g.ev ρ = .fn (.func gf) [] caps)
    (hf : E.P.funcs[gf]? = some fn) (hF : compFn E.P fn = some F) (hnm : fn.name ≠ "runtime.NumGoroutine") (hargs : caps.length + 1 ≤ fn.ntmps)
    (h : ∀ r0 : Loop, r0.state = .ready → r0.pending = none → LoopCode E.P N ps xa xb r0 →
      xfun (E.withY N ps xa xb) F (.yld L.length :: caps) (L ++ [.lp r0 ((List.range N).map ρ)]) fun _ L' => ∃ r1, L'[L.length]? = some (.lp r1 ((List.range N).map ρ)) ∧ r1.state ≠ .busy ∧
          match r1.pending with
          | none => K .normal ρ (L'.set L.length .dead)
          | some .ret => K .ret ρ (L'.set L.length .dead)
          | some (.exit i) => K (.exit i) ρ (L'.set L.length .dead)
          | some (.goto l) => K (.goto l) ρ (L'.set L.length .dead)
          | _ => False) : xrun E (.rngF g N ps xa xb) ρ L K := by
  simp only [xrun, hg]
  intro r0 h1 h2 h3
  exact xt_of_fun (E := E.withY N ps xa xb) hf hF hnm (by simpa using hargs) (h r0 h1 h2 h3)
end Go.X
