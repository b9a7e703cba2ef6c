import Derived.Test.YtnmhhmbeljlndaaGreatDoorXP18
set_option linter.unusedVariables false
set_option linter.unusedSimpArgs false
set_option linter.unusedSectionVars false
namespace Go.Proofs.YtnmhhmbeljlndaaGreatDoor.xRequests
open Go Go.X Go.X.TryzW Go.ChangeShapes Go.WideShapes Go.ChangeAt Go.RowKit
set_option maxRecDepth 100000

theorem zdA : ∀ (rows : List (List IV)), (∀ row ∈ rows, (Ty.int .i64).Of row) → ∃ l : List Int, rows = z0o l := by
  intro rows
  induction rows with
  | nil => exact fun _ => ⟨[], rfl⟩
  | cons r rows ih =>
    intro h
    obtain ⟨n, rfl, _⟩ := h r (by simp)
    obtain ⟨l, rfl⟩ := ih (fun r hr => h r (by simp [hr]))
    exact ⟨n :: l, rfl⟩

theorem contract (H : Type) (enc : TypeId × Value → H) (W : World) (base : Nat) (args : Array Value) (ds gs : List (DataW H)) (before : List MemPlace)
    (hval : ∀ (j : Nat) t v, Tryz.f4.params[j]? = some t → args[j]? = some v → Value.okWide Tryz.prog W .any base t v)
    (hW : DataW.Whole enc Tryz.prog Tryz.f4.params.toList Rows.execRequestsSpec.vars false W args.toList ds gs before) (hsh : W.ShapedOpen Tryz.prog) (hlaid : laidMetH Tryz.prog Rows.execRequestsRow.laid W) :
    Calls Tryz.prog 4 args W fun e W' => ∃ v, e = .returned v ∧ Rows.execRequestsSpec.post enc Tryz.prog Tryz.f4 false true false false W args v W' := by
  have hW' := hW
  obtain ⟨p, q, hA0, hV, rfl, hfz, hnd⟩ := hW
  have hA : DataW.TrodAll enc Tryz.prog W 0 (fun _ => true) true Tryz.f4.params.toList args.toList ds p := hA0
  have hpar : Tryz.f4.params.toList = [22] := rfl
  rw [hpar] at hA
  obtain ⟨v0, vs0, d0, ds0, p0, q0, hargs, rfl, rfl, h0, r0⟩ := trodAll_cons hA
  obtain ⟨rfl, rfl, rfl⟩ := trodAll_nil r0
  obtain rfl : args = #[v0] := by cases args; simp_all
  obtain ⟨rows, hl, hlen, hrows⟩ := Jf (e := .int .i64) (u := 3) (by kernel_rfl) (by kernel_rfl) (hval 0 22 v0 rfl rfl) h0
  obtain ⟨l, rfl⟩ := zdA rows hrows
  rw [Vw] at hlen
  have hp := zdS (E := zdt Tryz.prog W glE (zfF (zmX hlaid))) rfl zjP (fun {L} => zcM rfl zjP) l hlen
  refine (z9k (vs := [v0]) hp rfl (fun i x hi => ?_)).mono fun e W' ⟨he, hb⟩ => ?_
  · match i with
    | 0 => simp at hi; subst hi; exact hl
    | i + 1 => simp at hi
  · subst he
    exact ⟨_, rfl, z8S (t0 := 4) loT (by kernel_rfl) rfl (by kernel_rfl) Tryz.underlying4 rfl hW' hb⟩

theorem lifted (os : Os) (started : os.Started) (H : Type) (enc : TypeId × Value → H) (F : Stop.Interp) :
    ReturnsInHanded {} Tryz.checked os 4 .any ((OpenSpec.ofChange Rows.execRequestsSpec).preRow enc Tryz.prog Tryz.f4 Rows.execRequestsRow.domain false Rows.execRequestsRow.laid) (((OpenSpec.ofChange Rows.execRequestsSpec).at F).post enc Tryz.prog Tryz.f4 false true false false) := by
  obtain ⟨places, hx⟩ : ∃ places, DataW.whole enc Tryz.prog ((World.laidAll Tryz.prog os Rows.execRequestsRow.laid).forCall (fun _ _ => 0) ⟨#[], #[.slice none 0 0], []⟩).memory Tryz.f4.params.toList Rows.execRequestsSpec.vars false #[Value.slice none 0 0].toList 8 = some ([.nil], [], places) :=
    ⟨[], by kernel_rfl⟩
  refine returnsInHanded_of_row (C := Tryz.checked) (s := OpenSpec.ofChange Rows.execRequestsSpec) zmF started (by kernel_rfl) Tryz.func4
    (z4X (enc := enc) (C := Tryz.checked) false (World.laidAll Tryz.prog os Rows.execRequestsRow.laid) #[.slice none 0 0] (World.laidAll_os _ _ _) (by kernel_rfl) (by kernel_rfl) (by kernel_rfl)
      (OpenSpec.preRow_of_cond 8 hx (by kernel_rfl) (fun k hk => by cases hk) (by kernel_rfl) (by rw [MakeChecks.laidMetH_plain _ _ _ (by kernel_rfl)]; exact zmI os _))) ?_
  intro W base args ds gs before hval hW h1 h2 h3 h4 hsh h6
  exact contract H enc W base args ds gs before hval hW hsh (by assumption)

theorem zjq : (Rows.execRequestsRow.inPlace == Tryz.prog.inPlace 4) = true := by kernel_rfl
theorem zi9 : (Rows.execRequestsRow.unfollowed == Tryz.prog.unfollowed 4) = true := by kernel_rfl
theorem zj0 : (Rows.execRequestsRow.recurses == Tryz.prog.recurses 4) = true := by kernel_rfl
theorem ziM : (Rows.execRequestsRow.named == Tryz.prog.varsNamed 4) = true := by kernel_rfl
theorem closed : joinedFacts Tryz.prog 4 Tryz.f4 (OpenSpec.ofChange Rows.execRequestsSpec).bare Rows.execRequestsRow = true := by
  unfold joinedFacts
  rw [zjq, zi9, zj0, ziM]
  kernel_rfl
theorem said : Rows.ExecRequestsSaid :=
  OpenClaim.holds_of_cond 4 Tryz.f4 rfl rfl rfl rfl rfl rfl rfl ⟨rfl, rfl, rfl, rfl, rfl⟩ rfl rfl rfl rfl rfl (by kernel_rfl) Tryz.func4 closed
    (of_decide_eq_true (by kernel_rfl)) (by unfold Func.isWrapper; first | (rw [if_pos (by decide +kernel)]; kernel_rfl) | (rw [if_neg (by decide +kernel)]; exact ⟨rfl, rfl⟩))
    (fun os started H enc _ F => by rw [OpenClaim.pre_eq_preRow]; exact lifted os started H enc F)

theorem plain (f : FuncId) (fn : Func) (hf : Tryz.pinned.checked.prog.funcNamed Rows.execRequestsRow.func = some f) (hfn : Tryz.pinned.checked.prog.funcs[f]? = some fn) :
    true = Tryz.pinned.checked.prog.looks [] ∧ ∀ (j : Nat) t, fn.params[j]? = some t → Tryz.pinned.checked.prog.wantsStandIn t = false := by
  obtain rfl : f = 4 := Option.some.inj ((show Tryz.prog.funcNamed Rows.execRequestsRow.func = some 4 by kernel_rfl).symm.trans hf) |>.symm
  obtain rfl : fn = Tryz.f4 := (Option.some.inj (Tryz.func4.symm.trans hfn)).symm
  refine ⟨by kernel_rfl, fun j t ht => ?_⟩
  have hpar : Tryz.f4.params = #[22] := rfl
  rw [hpar] at ht
  have h : t = 22 := by
    have := Array.mem_of_getElem? ht
    simp at this; exact this
  subst h
  exact (show Tryz.prog.wantsStandIn 22 = false by kernel_rfl)

theorem card : Rows.ExecRequestsCardSaid :=
  Claim7.holds_tied_plain_at .later [] _ _ _ _ said (fun _ h => by cases h) (by kernel_rfl) (fun _ h => by cases h) execRequests_row_tie rfl ⟨rfl, rfl⟩ (by kernel_rfl) rfl plain (by kernel_rfl)
end Go.Proofs.YtnmhhmbeljlndaaGreatDoor.xRequests
