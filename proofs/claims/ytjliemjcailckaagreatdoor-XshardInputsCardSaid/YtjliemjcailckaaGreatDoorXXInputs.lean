/- THE STATEMENT 'XshardInputs': for all lists of mails, all numbers and all texts the call returns true, and what was handed in reads as it did. No condition beyond the row's own (the listed variables hold what the program's text lays; the card ties them). -/
import Derived.Test.YtjliemjcailckaaGreatDoorXP17
set_option linter.unusedVariables false
set_option linter.unusedSimpArgs false
set_option linter.unusedSectionVars false
namespace Go.Proofs.YtjliemjcailckaaGreatDoor.xInputs
open Go Go.X Go.X.TryzW Go.ChangeShapes Go.WideShapes Go.ChangeAt Go.RowKit
set_option maxRecDepth 100000

def z8W : Ty := .struct [.int .i64, .str, .str, .str, .str, .str, .int .i64]
theorem zan {row : List IV} (h : z8W.Of row) : ∃ k st t f n m x, row = yt k st t f n m x := by
  obtain ⟨_, _, rfl, ⟨k, rfl, _⟩, _, _, rfl, ⟨t, rfl, _⟩, _, _, rfl, ⟨f, rfl, _⟩, _, _, rfl, ⟨n, rfl, _⟩, _, _, rfl, ⟨m, rfl, _⟩, _, _, rfl, ⟨x, rfl, _⟩, _, _, rfl, ⟨st, rfl, _⟩, rfl⟩ := h
  exact ⟨k, st, t, f, n, m, x, rfl⟩

theorem contract (H : Type) (enc : TypeId × Value → H) (W : World) (base : Nat) (args : Array Value) (ds gs : List (DataW H)) (before : List MemPlace)
    (hval : ∀ (j : Nat) t v, Tryz.f3.params[j]? = some t → args[j]? = some v → Value.okWide Tryz.prog W .any base t v)
    (hW : DataW.Whole enc Tryz.prog Tryz.f3.params.toList Rows.xshardInputsSpec.vars false W args.toList ds gs before) (hsh : W.ShapedOpen Tryz.prog) (hlaid : laidMetH Tryz.prog Rows.xshardInputsRow.laid W) :
    Calls Tryz.prog 3 args W fun e W' => ∃ v, e = .returned v ∧ Rows.xshardInputsSpec.post enc Tryz.prog Tryz.f3 false true false false W args v W' := by
  have hW' := hW
  obtain ⟨p, q, hA0, hV, rfl, hfz, hnd⟩ := hW
  have hA : DataW.TrodAll enc Tryz.prog W 0 (fun _ => true) true Tryz.f3.params.toList args.toList ds p := hA0
  have hpar : Tryz.f3.params.toList = [22, 3, 9] := rfl
  rw [hpar] at hA
  obtain ⟨v0, vs0, d0, ds0, p0, q0, hargs, rfl, rfl, h0, r0⟩ := trodAll_cons hA
  obtain ⟨v1, vs1, d1, ds1, p1, q1, rfl, rfl, rfl, h1, r1⟩ := trodAll_cons r0
  obtain ⟨v2, vs2, d2, ds2, p2, q2, rfl, rfl, rfl, h2, r2⟩ := trodAll_cons r1
  obtain ⟨rfl, rfl, rfl⟩ := trodAll_nil r2
  obtain rfl : args = #[v0, v1, v2] := by cases args; simp_all
  obtain ⟨rows, hl, hlen, hrows⟩ := jh (e := z8W) (u := 28) (by kernel_rfl) (by kernel_rfl) (hval 0 22 v0 rfl rfl) h0
  obtain ⟨now, rfl⟩ := okWide_int Tryz.underlying3 (hval 1 3 v1 rfl rfl)
  obtain ⟨why, rfl⟩ := okWide_string (show Tryz.prog.underlying 9 = some .string by kernel_rfl) (hval 2 9 v2 rfl rfl)
  have hp := z7u (E := za9 Tryz.prog W glK (zbN (zjf hlaid))) rfl rfl now why.data.toList (fun r hr => zan (hrows r hr)) hlen
  refine (z6z (vs := [v0, .int .i64 now, .string why]) hp rfl (fun i x hi => ?_)).mono fun e W' ⟨he, hb⟩ => ?_
  · match i with
    | 0 => simp at hi; subst hi; exact hl
    | 1 => simp at hi; subst hi; exact .int _ _
    | 2 => simp at hi; subst hi; exact z0w _ _
    | i + 3 => simp at hi
  · subst he
    exact ⟨_, rfl, z6s (t0 := 4) loT (by kernel_rfl) rfl (by kernel_rfl) Tryz.underlying4 rfl hW' hb⟩

theorem lifted (os : Os) (started : os.Started) (H : Type) (enc : TypeId × Value → H) (F : Stop.Interp) :
    ReturnsInHanded {} Tryz.checked os 3 .any ((OpenSpec.ofChange Rows.xshardInputsSpec).preRow enc Tryz.prog Tryz.f3 Rows.xshardInputsRow.domain false Rows.xshardInputsRow.laid) (((OpenSpec.ofChange Rows.xshardInputsSpec).at F).post enc Tryz.prog Tryz.f3 false true false false) := by
  obtain ⟨places, hx⟩ : ∃ places, DataW.whole enc Tryz.prog ((World.laidAll Tryz.prog os Rows.xshardInputsRow.laid).forCall (fun _ _ => 0) ⟨#[], #[.slice none 0 0, .int .i64 0, .string ⟨#[]⟩], []⟩).memory Tryz.f3.params.toList Rows.xshardInputsSpec.vars false #[Value.slice none 0 0, .int .i64 0, .string ⟨#[]⟩].toList 8 = some ([.nil, .lit (.int .i64 0), .lit (.string [])], [], places) :=
    ⟨[], by kernel_rfl⟩
  refine returnsInHanded_of_row (C := Tryz.checked) (s := OpenSpec.ofChange Rows.xshardInputsSpec) zl6 started (by kernel_rfl) Tryz.func3
    (z1Z (enc := enc) (C := Tryz.checked) false (World.laidAll Tryz.prog os Rows.xshardInputsRow.laid) #[.slice none 0 0, .int .i64 0, .string ⟨#[]⟩] (World.laidAll_os _ _ _) (by kernel_rfl) (by kernel_rfl) (by kernel_rfl)
      (OpenSpec.preRow_of_cond 8 hx (by kernel_rfl) (fun k hk => by cases hk) (by kernel_rfl) (by rw [MakeChecks.laidMetH_plain _ _ _ (by kernel_rfl)]; exact zkj os _))) ?_
  intro W base args ds gs before hval hW h1 h2 h3 h4 hsh h6
  exact contract H enc W base args ds gs before hval hW hsh (by assumption)

theorem zeF : (Rows.xshardInputsRow.inPlace == Tryz.prog.inPlace 3) = true := by kernel_rfl
theorem zeg : (Rows.xshardInputsRow.unfollowed == Tryz.prog.unfollowed 3) = true := by kernel_rfl
theorem zfA : (Rows.xshardInputsRow.recurses == Tryz.prog.recurses 3) = true := by kernel_rfl
theorem zeX : (Rows.xshardInputsRow.named == Tryz.prog.varsNamed 3) = true := by kernel_rfl
theorem closed : joinedFacts Tryz.prog 3 Tryz.f3 (OpenSpec.ofChange Rows.xshardInputsSpec).bare Rows.xshardInputsRow = true := by
  unfold joinedFacts
  rw [zeF, zeg, zfA, zeX]
  kernel_rfl
theorem said : Rows.XshardInputsSaid :=
  OpenClaim.holds_of_cond 3 Tryz.f3 rfl rfl rfl rfl rfl rfl rfl ⟨rfl, rfl, rfl, rfl, rfl⟩ rfl rfl rfl rfl rfl (by kernel_rfl) Tryz.func3 closed
    (of_decide_eq_true (by kernel_rfl)) (by unfold Func.isWrapper; first | (rw [if_pos (by decide +kernel)]; kernel_rfl) | (rw [if_neg (by decide +kernel)]; exact ⟨rfl, rfl⟩))
    (fun os started H enc _ F => by rw [OpenClaim.pre_eq_preRow]; exact lifted os started H enc F)

theorem plain (f : FuncId) (fn : Func) (hf : Tryz.pinned.checked.prog.funcNamed Rows.xshardInputsRow.func = some f) (hfn : Tryz.pinned.checked.prog.funcs[f]? = some fn) :
    true = Tryz.pinned.checked.prog.looks [] ∧ ∀ (j : Nat) t, fn.params[j]? = some t → Tryz.pinned.checked.prog.wantsStandIn t = false := by
  obtain rfl : f = 3 := Option.some.inj ((show Tryz.prog.funcNamed Rows.xshardInputsRow.func = some 3 by kernel_rfl).symm.trans hf) |>.symm
  obtain rfl : fn = Tryz.f3 := (Option.some.inj (Tryz.func3.symm.trans hfn)).symm
  refine ⟨by kernel_rfl, fun j t ht => ?_⟩
  have hpar : Tryz.f3.params = #[22, 3, 9] := rfl
  rw [hpar] at ht
  have h : t = 22 ∨ t = 3 ∨ t = 9 := by
    have := Array.mem_of_getElem? ht
    simp at this; exact this
  rcases h with rfl | rfl | rfl
  · exact (show Tryz.prog.wantsStandIn 22 = false by kernel_rfl)
  · exact (show Tryz.prog.wantsStandIn 3 = false by kernel_rfl)
  · exact (show Tryz.prog.wantsStandIn 9 = false by kernel_rfl)

theorem z4P {P : Program} (h : P.funcs.any Func.goes = false) (f : FuncId) : P.goes f = false := by
  unfold Program.goes
  rw [h, Bool.and_false, Bool.or_false, List.any_eq_false]
  intro g _
  cases hg : P.funcs[g]? with
  | none => simp
  | some fn =>
    rw [Array.any_eq_false] at h
    obtain ⟨hlt, hfn⟩ := Array.getElem?_eq_some_iff.1 hg
    have := h g hlt
    rw [hfn] at this
    simpa using this
theorem z2c {P : Program} (h : P.funcs.any Func.goes = false) (c : OpenClaim) (hs : c.start = .entering) : false = c.goesBy P := by
  unfold OpenClaim.goesBy Program.goesAt Program.goesFrom
  rw [hs]
  cases P.funcNamed c.func with
  | none => rfl
  | some f =>
    show false = (P.goes f || false)
    rw [z4P h]; rfl
theorem zew : Tryz.pinned.checked.prog.funcs.any Func.goes = false := by kernel_rfl
theorem zeS : false = Rows.xshardInputsRow.goesBy Tryz.pinned.checked.prog := z2c zew _ rfl
theorem card : Rows.XshardInputsCardSaid :=
  Claim7.holds_tied_plain_at .later [] _ _ _ _ said (fun _ h => by cases h) (by kernel_rfl) (fun _ h => by cases h) xshardInputs_row_tie rfl ⟨rfl, rfl⟩ (by kernel_rfl) rfl plain zeS
end Go.Proofs.YtjliemjcailckaaGreatDoor.xInputs
