/- THE STATEMENT 'FrontBack': for all lists of pairs and of numbers and every text the call returns true, and the lists read as they did. No condition beyond the row's own (the listed variables hold what the program's text lays; the card ties them). -/
import Derived.Test.YtepkimlnaoaboaaGreatDoorXP26
import Derived.SizedLaws
set_option linter.unusedVariables false
set_option linter.unusedSimpArgs false
set_option linter.unusedSectionVars false
namespace Go.Proofs.YtepkimlnaoaboaaGreatDoor.xBackF
open Go Go.X Go.X.TryzW Go.ChangeShapes Go.WideShapes Go.ChangeAt Go.RowKit
set_option maxRecDepth 100000

/-- A list of numbers that was handed in. -/
theorem ints_of : ∀ (rows : List (List IV)), (∀ row ∈ rows, (Ty.int .i64).Of row) → ∃ l : List Int, rows = iRows l := by
  intro rows
  induction rows with
  | nil => exact fun _ => ⟨[], rfl⟩
  | cons r rows ih =>
    intro h
    obtain ⟨n, rfl, _⟩ := h r (by simp)
    obtain ⟨l, rfl⟩ := ih (fun r hr => h r (by simp [hr]))
    exact ⟨n :: l, rfl⟩
/-- A list of pairs of texts that was handed in. -/
theorem pairs_of : ∀ (rows : List (List IV)), (∀ row ∈ rows, (Ty.struct [.str, .str]).OfS row) → ∃ l : List Fr.Pair, rows = pRows l ∧ ∀ p ∈ l, p.key.length ≤ 140737488351232 ∧ p.val.length ≤ 140737488351232 := by
  intro rows
  induction rows with
  | nil => exact fun _ => ⟨[], rfl, by simp⟩
  | cons r rows ih =>
    intro h
    have h0 := h r (by simp)
    simp only [Ty.OfS, Ty.OfSAll] at h0
    obtain ⟨a, b, rfl, ⟨k, rfl, hk⟩, c, d, rfl, ⟨v, rfl, hv⟩, rfl⟩ := h0
    obtain ⟨l, rfl, hl⟩ := ih (fun r hr => h r (by simp [hr]))
    refine ⟨⟨k, v⟩ :: l, rfl, fun p hp => ?_⟩
    rcases List.mem_cons.1 hp with rfl | hp
    · exact ⟨hk, hv⟩
    · exact hl p hp

theorem contract (H : Type) (enc : TypeId × Value → H) (W : World) (base : Nat) (args : Array Value) (ds gs : List (DataW H)) (before : List MemPlace)
    (hval : ∀ (j : Nat) t v, Tryz.f8.params[j]? = some t → args[j]? = some v → Value.okWide Tryz.prog W .any base t v)
    (hW : DataW.Whole enc Tryz.prog Tryz.f8.params.toList Rows.frontBackSpec.vars false W args.toList ds gs before) (hsh : W.ShapedOpen Tryz.prog) (hlaid : laidMetH Tryz.prog Rows.frontBackRow.laid W) (hsz : (DataW.weightsEach Tryz.prog (Tryz.f8.params.toList ++ (OpenSpec.ofChange Rows.frontBackSpec).bare.plain.varTypes Tryz.prog) (ds ++ gs)).all (· ≤ reachBytes) = true) :
    Calls Tryz.prog 8 args W fun e W' => ∃ v, e = .returned v ∧ Rows.frontBackSpec.post enc Tryz.prog Tryz.f8 false true false false W args v W' := by
  obtain ⟨m, hm⟩ := maxLenCell hsh
  have hW' := hW
  obtain ⟨p, q, hA0, hV, rfl, hfz, hnd⟩ := hW
  have hA : DataW.TrodAll enc Tryz.prog W 0 (fun _ => true) true Tryz.f8.params.toList args.toList ds p := hA0
  have hpar : Tryz.f8.params.toList = [38, 37, 9] := rfl
  rw [hpar] at hA
  obtain ⟨v0, vs0, d0, ds0, p0, q0, hargs, rfl, rfl, h0, r0⟩ := trodAll_cons hA
  obtain ⟨v1, vs1, d1, ds1, p1, q1, rfl, rfl, rfl, h1, r1⟩ := trodAll_cons r0
  obtain ⟨v2, vs2, d2, ds2, p2, q2, rfl, rfl, rfl, h2, r2⟩ := trodAll_cons r1
  obtain ⟨rfl, rfl, rfl⟩ := trodAll_nil r2
  obtain rfl : args = #[v0, v1, v2] := by cases args; simp_all
  obtain ⟨rows, hl, hlen, hrows⟩ := vr_sized_slice (e := .struct [.str, .str]) (u := 47) (by kernel_rfl) (by kernel_rfl) (hval 0 38 v0 rfl rfl) h0 (sized_each hsz (j := 0) rfl rfl)
  obtain ⟨l, rfl, hps⟩ := pairs_of rows hrows
  obtain ⟨rows1, hl1, hlen1, hrows1⟩ := vr_handed_slice (e := .int .i64) (u := 3) (by kernel_rfl) (by kernel_rfl) (hval 1 37 v1 rfl rfl) h1
  obtain ⟨ns, rfl⟩ := ints_of rows1 hrows1
  obtain ⟨s, rfl⟩ := okWide_string (show Tryz.prog.underlying 9 = some .string by kernel_rfl) (hval 2 9 v2 rfl rfl)
  have ht := tab8 hlaid
  have hp := back_pure (E := envAt Tryz.prog W (glT m) (glT_ok hm)) rfl (m := m) rfl (fun w hG => tab8_stays ht hG) l ns s.data.toList (by rw [pRows_len] at hlen; exact hlen) hps
  refine (law_calls (vs := [v0, v1, .string s]) hp rfl (fun i x hi => ?_)).mono fun e W' ⟨he, hb⟩ => ?_
  · match i with
    | 0 => simp at hi; subst hi; exact hl
    | 1 => simp at hi; subst hi; exact hl1
    | 2 => simp at hi; subst hi; exact vr_string _ _
    | i + 3 => simp at hi
  · subst he
    exact ⟨_, rfl, post_true (t0 := 4) loT (by kernel_rfl) rfl (by kernel_rfl) Tryz.underlying4 rfl hW' hb⟩

theorem lifted (os : Os) (started : os.Started) (H : Type) (enc : TypeId × Value → H) (F : Stop.Interp) :
    ReturnsInHanded {} Tryz.checked os 8 .any ((OpenSpec.ofChange Rows.frontBackSpec).preRow enc Tryz.prog Tryz.f8 Rows.frontBackRow.domain false Rows.frontBackRow.laid) (((OpenSpec.ofChange Rows.frontBackSpec).at F).post enc Tryz.prog Tryz.f8 false true false false) := by
  obtain ⟨places, hx⟩ : ∃ places, DataW.whole enc Tryz.prog ((World.laidAll Tryz.prog os Rows.frontBackRow.laid).forCall (fun _ _ => 0) ⟨#[], #[.slice none 0 0, .slice none 0 0, .string ⟨#[]⟩], []⟩).memory Tryz.f8.params.toList Rows.frontBackSpec.vars false #[Value.slice none 0 0, .slice none 0 0, .string ⟨#[]⟩].toList 8 = some ([.nil, .nil, .lit (.string [])], [], places) :=
    ⟨[], by kernel_rfl⟩
  refine returnsInHanded_of_row (C := Tryz.checked) (s := OpenSpec.ofChange Rows.frontBackSpec) ownT started (by kernel_rfl) Tryz.func8
    (witness_zip (enc := enc) (C := Tryz.checked) false (World.laidAll Tryz.prog os Rows.frontBackRow.laid) #[.slice none 0 0, .slice none 0 0, .string ⟨#[]⟩] (World.laidAll_os _ _ _) (by kernel_rfl) (by kernel_rfl) (by kernel_rfl)
      (OpenSpec.preRow_of_cond 8 hx (by kernel_rfl) (fun k hk => by cases hk) (by kernel_rfl) (by rw [MakeChecks.laidMetH_plain _ _ _ (by kernel_rfl)]; exact metT os _))) ?_
  intro W base args ds gs before hval hW h1 h2 h3 h4 hsh h6
  exact contract H enc W base args ds gs before hval hW hsh (by assumption) (by assumption)

theorem said : Rows.FrontBackSaid :=
  OpenClaim.holds_of_cond 8 Tryz.f8 rfl rfl rfl rfl rfl rfl rfl ⟨rfl, rfl, rfl, rfl, rfl⟩ rfl rfl rfl rfl rfl (by kernel_rfl) Tryz.func8 (by kernel_rfl)
    (of_decide_eq_true (by kernel_rfl)) (by unfold Func.isWrapper; first | (rw [if_pos (by decide +kernel)]; kernel_rfl) | (rw [if_neg (by decide +kernel)]; exact ⟨rfl, rfl⟩))
    (fun os started H enc _ F => by rw [OpenClaim.pre_eq_preRow]; exact lifted os started H enc F)

theorem plain (f : FuncId) (fn : Func) (hf : Tryz.pinned.checked.prog.funcNamed Rows.frontBackRow.func = some f) (hfn : Tryz.pinned.checked.prog.funcs[f]? = some fn) :
    true = Tryz.pinned.checked.prog.looks [] ∧ ∀ (j : Nat) t, fn.params[j]? = some t → Tryz.pinned.checked.prog.wantsStandIn t = false := by
  obtain rfl : f = 8 := Option.some.inj ((show Tryz.prog.funcNamed Rows.frontBackRow.func = some 8 by kernel_rfl).symm.trans hf) |>.symm
  obtain rfl : fn = Tryz.f8 := (Option.some.inj (Tryz.func8.symm.trans hfn)).symm
  refine ⟨by kernel_rfl, fun j t ht => ?_⟩
  have hpar : Tryz.f8.params = #[38, 37, 9] := rfl
  rw [hpar] at ht
  have h : t = 38 ∨ t = 37 ∨ t = 9 := by
    have := Array.mem_of_getElem? ht
    simp at this; exact this
  rcases h with rfl | rfl | rfl
  · exact (show Tryz.prog.wantsStandIn 38 = false by kernel_rfl)
  · exact (show Tryz.prog.wantsStandIn 37 = false by kernel_rfl)
  · exact (show Tryz.prog.wantsStandIn 9 = false by kernel_rfl)

theorem card : Rows.FrontBackCardSaid :=
  Claim7.holds_tied_plain_at .later [] _ _ _ _ said (fun _ h => by cases h) (by kernel_rfl) (fun _ h => by cases h) frontBack_row_tie rfl ⟨rfl, rfl⟩ (by kernel_rfl) rfl plain (by kernel_rfl)
end Go.Proofs.YtepkimlnaoaboaaGreatDoor.xBackF
