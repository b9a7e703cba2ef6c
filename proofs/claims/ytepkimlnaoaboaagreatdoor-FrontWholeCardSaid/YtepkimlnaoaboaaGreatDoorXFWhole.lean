/- THE STATEMENT 'FrontWhole': for every text, all lists of texts and either flag the call returns true, and the list reads as it did. No condition beyond the row's own (the listed variables hold what the program's text lays; the card ties them). -/
import Derived.Test.YtepkimlnaoaboaaGreatDoorXP24
import Derived.SizedLaws
set_option linter.unusedVariables false
set_option linter.unusedSimpArgs false
set_option linter.unusedSectionVars false
namespace Go.Proofs.YtepkimlnaoaboaaGreatDoor.xWhole
open Go Go.X Go.X.TryzW Go.ChangeShapes Go.WideShapes Go.ChangeAt Go.RowKit
set_option maxRecDepth 100000

theorem contract (H : Type) (enc : TypeId × Value → H) (W : World) (base : Nat) (args : Array Value) (ds gs : List (DataW H)) (before : List MemPlace)
    (hval : ∀ (j : Nat) t v, Tryz.f5.params[j]? = some t → args[j]? = some v → Value.okWide Tryz.prog W .any base t v)
    (hW : DataW.Whole enc Tryz.prog Tryz.f5.params.toList Rows.frontWholeSpec.vars false W args.toList ds gs before) (hsh : W.ShapedOpen Tryz.prog) (hlaid : laidMetH Tryz.prog Rows.frontWholeRow.laid W) (hsz : (DataW.weightsEach Tryz.prog (Tryz.f5.params.toList ++ (OpenSpec.ofChange Rows.frontWholeSpec).bare.plain.varTypes Tryz.prog) (ds ++ gs)).all (· ≤ reachBytes) = true) :
    Calls Tryz.prog 5 args W fun e W' => ∃ v, e = .returned v ∧ Rows.frontWholeSpec.post enc Tryz.prog Tryz.f5 false true false false W args v W' := by
  obtain ⟨m, hm⟩ := maxLenCell hsh
  have hW' := hW
  obtain ⟨p, q, hA0, hV, rfl, hfz, hnd⟩ := hW
  have hA : DataW.TrodAll enc Tryz.prog W 0 (fun _ => true) true Tryz.f5.params.toList args.toList ds p := hA0
  have hpar : Tryz.f5.params.toList = [9, 33, 4] := rfl
  rw [hpar] at hA
  obtain ⟨v0, vs0, d0, ds0, p0, q0, hargs, rfl, rfl, h0, r0⟩ := trodAll_cons hA
  obtain ⟨v1, vs1, d1, ds1, p1, q1, rfl, rfl, rfl, h1, r1⟩ := trodAll_cons r0
  obtain ⟨v2, vs2, d2, ds2, p2, q2, rfl, rfl, rfl, h2, r2⟩ := trodAll_cons r1
  obtain ⟨rfl, rfl, rfl⟩ := trodAll_nil r2
  obtain rfl : args = #[v0, v1, v2] := by cases args; simp_all
  obtain ⟨s, rfl⟩ := okWide_string (show Tryz.prog.underlying 9 = some .string by kernel_rfl) (hval 0 9 v0 rfl rfl)
  obtain ⟨fuel, h0t⟩ := h0
  obtain ⟨s', hc, hx, _⟩ := DataW.trod_string (show Tryz.prog.underlying 9 = some .string by kernel_rfl) h0t
  obtain rfl : s = s' := by simpa [Value.cells] using hc
  obtain ⟨rfl, rfl⟩ : d0 = .lit (.string s.data.toList) ∧ p0 = [] := by simpa using hx
  have hbd : s.data.toList.length ≤ 140737488351232 := by
    have := sized_string hsz (j := 0) (t := 9) (bytes := s.data.toList) rfl rfl
    unfold reachBytes at this; omega
  obtain ⟨l, hl, _, _⟩ := vr_strs (e := 9) (by kernel_rfl) (by kernel_rfl) (by kernel_rfl) (hval 1 33 v1 rfl rfl) h1
  obtain ⟨b, rfl⟩ := okWide_bool Tryz.underlying4 (hval 2 4 v2 rfl rfl)
  have ht := tab8 hlaid
  have hp := whole_pure' (E := envAt Tryz.prog W (glT m) (glT_ok hm)) rfl (m := m) rfl (fun w hG => tab8_stays ht hG) s.data.toList l b hbd
  refine (law_calls (vs := [.string s, v1, .bool b]) hp rfl (fun i x hi => ?_)).mono fun e W' ⟨he, hb⟩ => ?_
  · match i with
    | 0 => simp at hi; subst hi; exact vr_string _ _
    | 1 => simp at hi; subst hi; exact hl
    | 2 => simp at hi; subst hi; exact .bool _
    | i + 3 => simp at hi
  · subst he
    exact ⟨_, rfl, post_true (t0 := 4) loT (by kernel_rfl) rfl (by kernel_rfl) Tryz.underlying4 rfl hW' hb⟩

theorem lifted (os : Os) (started : os.Started) (H : Type) (enc : TypeId × Value → H) (F : Stop.Interp) :
    ReturnsInHanded {} Tryz.checked os 5 .any ((OpenSpec.ofChange Rows.frontWholeSpec).preRow enc Tryz.prog Tryz.f5 Rows.frontWholeRow.domain false Rows.frontWholeRow.laid) (((OpenSpec.ofChange Rows.frontWholeSpec).at F).post enc Tryz.prog Tryz.f5 false true false false) := by
  obtain ⟨places, hx⟩ : ∃ places, DataW.whole enc Tryz.prog ((World.laidAll Tryz.prog os Rows.frontWholeRow.laid).forCall (fun _ _ => 0) ⟨#[], #[.string ⟨#[]⟩, .slice none 0 0, .bool false], []⟩).memory Tryz.f5.params.toList Rows.frontWholeSpec.vars false #[Value.string ⟨#[]⟩, .slice none 0 0, .bool false].toList 8 = some ([.lit (.string []), .nil, .lit (.bool false)], [], places) :=
    ⟨[], by kernel_rfl⟩
  refine returnsInHanded_of_row (C := Tryz.checked) (s := OpenSpec.ofChange Rows.frontWholeSpec) ownT started (by kernel_rfl) Tryz.func5
    (witness_zip (enc := enc) (C := Tryz.checked) false (World.laidAll Tryz.prog os Rows.frontWholeRow.laid) #[.string ⟨#[]⟩, .slice none 0 0, .bool false] (World.laidAll_os _ _ _) (by kernel_rfl) (by kernel_rfl) (by kernel_rfl)
      (OpenSpec.preRow_of_cond 8 hx (by kernel_rfl) (fun k hk => by cases hk) (by kernel_rfl) (by rw [MakeChecks.laidMetH_plain _ _ _ (by kernel_rfl)]; exact metT os _))) ?_
  intro W base args ds gs before hval hW h1 h2 h3 h4 hsh h6
  exact contract H enc W base args ds gs before hval hW hsh (by assumption) (by assumption)

theorem said : Rows.FrontWholeSaid :=
  OpenClaim.holds_of_cond 5 Tryz.f5 rfl rfl rfl rfl rfl rfl rfl ⟨rfl, rfl, rfl, rfl, rfl⟩ rfl rfl rfl rfl rfl (by kernel_rfl) Tryz.func5 (by kernel_rfl)
    (of_decide_eq_true (by kernel_rfl)) (by unfold Func.isWrapper; first | (rw [if_pos (by decide +kernel)]; kernel_rfl) | (rw [if_neg (by decide +kernel)]; exact ⟨rfl, rfl⟩))
    (fun os started H enc _ F => by rw [OpenClaim.pre_eq_preRow]; exact lifted os started H enc F)

theorem plain (f : FuncId) (fn : Func) (hf : Tryz.pinned.checked.prog.funcNamed Rows.frontWholeRow.func = some f) (hfn : Tryz.pinned.checked.prog.funcs[f]? = some fn) :
    true = Tryz.pinned.checked.prog.looks [] ∧ ∀ (j : Nat) t, fn.params[j]? = some t → Tryz.pinned.checked.prog.wantsStandIn t = false := by
  obtain rfl : f = 5 := Option.some.inj ((show Tryz.prog.funcNamed Rows.frontWholeRow.func = some 5 by kernel_rfl).symm.trans hf) |>.symm
  obtain rfl : fn = Tryz.f5 := (Option.some.inj (Tryz.func5.symm.trans hfn)).symm
  refine ⟨by kernel_rfl, fun j t ht => ?_⟩
  have hpar : Tryz.f5.params = #[9, 33, 4] := rfl
  rw [hpar] at ht
  have h : t = 9 ∨ t = 33 ∨ t = 4 := by
    have := Array.mem_of_getElem? ht
    simp at this; exact this
  rcases h with rfl | rfl | rfl
  · exact (show Tryz.prog.wantsStandIn 9 = false by kernel_rfl)
  · exact (show Tryz.prog.wantsStandIn 33 = false by kernel_rfl)
  · exact (show Tryz.prog.wantsStandIn 4 = false by kernel_rfl)

theorem card : Rows.FrontWholeCardSaid :=
  Claim7.holds_tied_plain_at .later [] _ _ _ _ said (fun _ h => by cases h) (by kernel_rfl) (fun _ h => by cases h) frontWhole_row_tie rfl ⟨rfl, rfl⟩ (by kernel_rfl) rfl plain (by kernel_rfl)
end Go.Proofs.YtepkimlnaoaboaaGreatDoor.xWhole
