/- THE STATEMENT 'FrontState', where what it reads is of bulk at most 1048576: for every definition and every state the call returns true, and both read as they did. No condition beyond the row's own (the listed variables hold what the program's text lays; the card ties them). -/
import Derived.Test.YtepkimlnaoaboabGreatDoorXP31
set_option linter.unusedVariables false
set_option linter.unusedSimpArgs false
set_option linter.unusedSectionVars false
namespace Go.Proofs.YtepkimlnaoaboabGreatDoor.xState
open Go Go.X Go.X.TryzW Go.X.Upto Go.ChangeShapes Go.WideShapes Go.ChangeAt Go.RowKit
set_option maxRecDepth 100000

theorem int_range' {z : Int} (h : (Lit.int .i64 z).wf = true) : -9223372036854775808 ≤ z ∧ z ≤ 9223372036854775807 := by
  simp [Lit.wf, IntKind.min, IntKind.max, IntKind.bits, IntKind.signed] at h
  omega
abbrev nodeTy : Ty := .struct [.str, .int .i64, .str, .str, .int .i64, .int .i64, .slice .str]
abbrev nsTy : Ty := .struct [.int .i64, .int .i64, .str]
abbrev sigTy : Ty := .struct [.str, .str]
/-- The nodes of a definition that was handed in. -/
theorem nodes_of : ∀ (rows : List (List IV)), (∀ row ∈ rows, TyU.OfU nodeTy row) → ∃ l : List DN, rows = dnRows l ∧ DnOk l := by
  intro rows
  induction rows with
  | nil => exact fun _ => ⟨[], rfl, fun x hx => by simp at hx⟩
  | cons r rows ih =>
    intro h
    obtain ⟨a1, b1, rfl, ⟨s, rfl, hs⟩, a2, b2, rfl, ⟨n, rfl, _⟩, a3, b3, rfl, ⟨s3, rfl, _⟩, a4, b4, rfl, ⟨s4, rfl, _⟩, a5, b5, rfl, ⟨s5, rfl, _⟩, a6, b6, rfl, ⟨s6, rfl, _⟩, a7, b7, rfl, ⟨s7, rfl, _⟩, rfl⟩ := h r (by simp)
    obtain ⟨l, rfl, hl⟩ := ih (fun r hr => h r (by simp [hr]))
    refine ⟨⟨s, [.int .i64 n, .str s3, .str s4, .int .i64 s5, .int .i64 s6, .isl s7]⟩ :: l, rfl, fun x hx => ?_⟩
    rcases List.mem_cons.1 hx with rfl | hx
    · exact ⟨rfl, hs⟩
    · exact hl x hx
/-- The nodes of a state that was handed in. -/
theorem states_of : ∀ (rows : List (List IV)), (∀ row ∈ rows, TyU.OfU nsTy row) → ∃ l : List NS, rows = nsRows l ∧ NsOk l := by
  intro rows
  induction rows with
  | nil => exact fun _ => ⟨[], rfl, fun x hx => by simp at hx⟩
  | cons r rows ih =>
    intro h
    obtain ⟨a1, b1, rfl, ⟨s, rfl, hs⟩, a2, b2, rfl, ⟨n, rfl, hn⟩, a3, b3, rfl, ⟨s3, rfl, h3⟩, rfl⟩ := h r (by simp)
    obtain ⟨l, rfl, hl⟩ := ih (fun r hr => h r (by simp [hr]))
    refine ⟨⟨s, n, s3⟩ :: l, rfl, fun x hx => ?_⟩
    rcases List.mem_cons.1 hx with rfl | hx
    · exact ⟨h3, int_range' hn⟩
    · exact hl x hx

theorem contract (H : Type) (enc : TypeId × Value → H) (W : World) (base : Nat) (args : Array Value) (ds gs : List (DataW H)) (before : List MemPlace)
    (hval : ∀ (j : Nat) t v, Tryz.f4.params[j]? = some t → args[j]? = some v → Value.okWide Tryz.prog W .any base t v)
    (hW : DataW.Whole enc Tryz.prog Tryz.f4.params.toList Rows.frontStateSpec.vars false W args.toList ds gs before) (hsh : W.ShapedOpen Tryz.prog) (hlaid : laidMetH Tryz.prog Rows.frontStateUptoRow.laid W) (hk : Rows.uptoSmall H (ds ++ gs) = true) :
    Calls Tryz.prog 4 args W fun e W' => ∃ v, e = .returned v ∧ Rows.frontStateSpec.post enc Tryz.prog Tryz.f4 false true false false W args v W' := by
  obtain ⟨m, hm⟩ := maxLenCell hsh
  have hW' := hW
  obtain ⟨p, q, hA0, hV, rfl, hfz, hnd⟩ := hW
  have hA : DataW.TrodAll enc Tryz.prog W 0 (fun _ => true) true Tryz.f4.params.toList args.toList ds p := hA0
  have hpar : Tryz.f4.params.toList = [37, 41] := rfl
  rw [hpar] at hA
  obtain ⟨v0, vs0, d0, ds0, p0, q0, hargs, rfl, rfl, h0, r0⟩ := trodAll_cons hA
  obtain ⟨v1, vs1, d1, ds1, p1, q1, rfl, rfl, rfl, h1, r1⟩ := trodAll_cons r0
  obtain ⟨rfl, rfl, rfl⟩ := trodAll_nil r1
  obtain rfl : args = #[v0, v1] := by cases args; simp_all
  have hk' : Rows.uptoBulkAll ([d0, d1] ++ gs) ≤ 1048576 := of_decide_eq_true hk
  have k0 : Rows.uptoBulk d0 ≤ 1048576 := Nat.le_trans (bulk_le (by simp)) hk'
  have k1 : Rows.uptoBulk d1 ≤ 1048576 := Nat.le_trans (bulk_le (by simp)) hk'
  obtain ⟨cs0, hv0, a1, b1, rfl, ⟨nm, rfl, _⟩, a2, b2, rfl, ⟨rows0, rfl, hr0⟩, rfl⟩ := vr_upto_struct (fs := [.str, .slice nodeTy]) (by kernel_rfl) Tryz.underlying37 (hval 0 37 v0 rfl rfl) h0 k0
  obtain ⟨l0, rfl, hl0⟩ := nodes_of rows0 hr0.2
  obtain ⟨cs1, hv1, c1, e1, rfl, ⟨df, rfl, hdf⟩, c2, e2, rfl, ⟨id, rfl, _⟩, c3, e3, rfl, ⟨pa, rfl, _⟩, c4, e4, rfl, ⟨pn, rfl, _⟩, c5, e5, rfl, ⟨st, rfl, _⟩, c6, e6, rfl, ⟨tx, rfl, _⟩, c7, e7, rfl, ⟨rows1, rfl, hr1⟩, c8, e8, rfl, ⟨sg, rfl, _⟩, c9, e9, rfl, ⟨ev, rfl, hev⟩, rfl⟩ :=
    vr_upto_struct (fs := [.str, .str, .str, .str, .int .i64, .str, .slice nsTy, .slice sigTy, .int .i64]) (by kernel_rfl) Tryz.underlying41 (hval 1 41 v1 rfl rfl) h1 k1
  obtain ⟨l1, rfl, hl1⟩ := states_of rows1 hr1.2
  have hev' := int_range' hev
  have ht := tab8 (show laidMetH Tryz.prog Rows.frontRepliesRow.laid W from hlaid)
  have hp := front_state_pure (E := envAt Tryz.prog W (glT m) (glT_ok hm)) rfl (m := m) rfl (fun w hG => tab8_stays ht hG) (fun w hG => tab_stays (tabT (show laidMetH Tryz.prog Rows.frontRepliesRow.laid W from hlaid)) hG) nm l0 ⟨df, id, pa, pn, st, tx, l1, sg, ev⟩ hl0 hl1 hdf hev'.1 hev'.2
  refine (law_calls (vs := [v0, v1]) hp rfl (fun i x hi => ?_)).mono fun e W' ⟨he, hb⟩ => ?_
  · match i with
    | 0 => simp at hi; subst hi; exact hv0
    | 1 => simp at hi; subst hi; exact hv1
    | i + 2 => simp at hi
  · subst he
    exact ⟨_, rfl, post_true (t0 := 4) loT (by kernel_rfl) rfl (by kernel_rfl) Tryz.underlying4 rfl hW' hb⟩

theorem lifted (os : Os) (started : os.Started) (H : Type) (enc : TypeId × Value → H) (F : Stop.Interp) :
    ReturnsInHanded {} Tryz.checked os 4 .any ((Rows.OpenSpec.upto Rows.frontStateSpec).preRow enc Tryz.prog Tryz.f4 Rows.frontStateUptoRow.domain false Rows.frontStateUptoRow.laid) (((Rows.OpenSpec.upto Rows.frontStateSpec).at F).post enc Tryz.prog Tryz.f4 false true false false) := by
  obtain ⟨places, hx⟩ : ∃ places, DataW.whole enc Tryz.prog ((World.laidAll Tryz.prog os Rows.frontStateUptoRow.laid).forCall (fun _ _ => 0) ⟨#[], #[.agg #[.string ⟨#[]⟩, .slice none 0 0], .agg #[.string ⟨#[]⟩, .string ⟨#[]⟩, .string ⟨#[]⟩, .string ⟨#[]⟩, .int .i64 0, .string ⟨#[]⟩, .slice none 0 0, .slice none 0 0, .int .i64 0]], []⟩).memory Tryz.f4.params.toList Rows.frontStateSpec.vars false
      #[Value.agg #[.string ⟨#[]⟩, .slice none 0 0], Value.agg #[.string ⟨#[]⟩, .string ⟨#[]⟩, .string ⟨#[]⟩, .string ⟨#[]⟩, .int .i64 0, .string ⟨#[]⟩, .slice none 0 0, .slice none 0 0, .int .i64 0]].toList 8 =
      some ([.agg [.lit (.string []), .nil], .agg [.lit (.string []), .lit (.string []), .lit (.string []), .lit (.string []), .lit (.int .i64 0), .lit (.string []), .nil, .nil, .lit (.int .i64 0)]], [], places) :=
    ⟨[], by kernel_rfl⟩
  refine returnsInHanded_of_row (C := Tryz.checked) (s := Rows.OpenSpec.upto Rows.frontStateSpec) ownT started (by kernel_rfl) Tryz.func4
    (witness_zip (enc := enc) (C := Tryz.checked) false (World.laidAll Tryz.prog os Rows.frontStateUptoRow.laid) #[.agg #[.string ⟨#[]⟩, .slice none 0 0], .agg #[.string ⟨#[]⟩, .string ⟨#[]⟩, .string ⟨#[]⟩, .string ⟨#[]⟩, .int .i64 0, .string ⟨#[]⟩, .slice none 0 0, .slice none 0 0, .int .i64 0]] (World.laidAll_os _ _ _) (by kernel_rfl) (by kernel_rfl) (by kernel_rfl)
      (OpenSpec.preRow_of_cond 8 hx (by kernel_rfl) (fun k hk => by cases hk; kernel_rfl) (by kernel_rfl) (by rw [MakeChecks.laidMetH_plain _ _ _ (by kernel_rfl)]; exact metT os _))) ?_
  intro W base args ds gs before hval hW h1 hcond h3 h4 hsh h6
  exact contract H enc W base args ds gs before hval hW hsh (by assumption) (hcond _ rfl)

theorem said : Rows.FrontStateUptoSaid :=
  OpenClaim.holds_of_cond 4 Tryz.f4 rfl rfl rfl rfl rfl rfl rfl ⟨rfl, rfl, rfl, rfl, rfl⟩ rfl rfl rfl rfl rfl (by kernel_rfl) Tryz.func4 (by kernel_rfl)
    (of_decide_eq_true (by kernel_rfl)) (by unfold Func.isWrapper; first | (rw [if_pos (by decide +kernel)]; kernel_rfl) | (rw [if_neg (by decide +kernel)]; exact ⟨rfl, rfl⟩))
    (fun os started H enc _ F => by rw [OpenClaim.pre_eq_preRow]; exact lifted os started H enc F)

theorem plain (f : FuncId) (fn : Func) (hf : Tryz.pinned.checked.prog.funcNamed Rows.frontStateUptoRow.func = some f) (hfn : Tryz.pinned.checked.prog.funcs[f]? = some fn) :
    true = Tryz.pinned.checked.prog.looks [] ∧ ∀ (j : Nat) t, fn.params[j]? = some t → Tryz.pinned.checked.prog.wantsStandIn t = false := by
  obtain rfl : f = 4 := Option.some.inj ((show Tryz.prog.funcNamed Rows.frontStateUptoRow.func = some 4 by kernel_rfl).symm.trans hf) |>.symm
  obtain rfl : fn = Tryz.f4 := (Option.some.inj (Tryz.func4.symm.trans hfn)).symm
  refine ⟨by kernel_rfl, fun j t ht => ?_⟩
  have hpar : Tryz.f4.params = #[37, 41] := rfl
  rw [hpar] at ht
  have h : t = 37 ∨ t = 41 := by
    have := Array.mem_of_getElem? ht
    simp at this; exact this
  rcases h with rfl | rfl
  · exact (show Tryz.prog.wantsStandIn 37 = false by kernel_rfl)
  · exact (show Tryz.prog.wantsStandIn 41 = false by kernel_rfl)

theorem card : Rows.FrontStateUptoCardSaid :=
  Claim7.holds_tied_plain_at .later [] _ _ _ _ said (fun _ h => by cases h) (by kernel_rfl) (fun _ h => by cases h) frontStateUpto_row_tie rfl ⟨rfl, rfl⟩ (by kernel_rfl) rfl plain (by kernel_rfl)
end Go.Proofs.YtepkimlnaoaboabGreatDoor.xState
