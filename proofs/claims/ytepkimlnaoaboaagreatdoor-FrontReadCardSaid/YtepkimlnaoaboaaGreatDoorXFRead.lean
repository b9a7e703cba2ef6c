/- THE STATEMENT 'FrontRead': for all lists of bytes the call returns true, and the lists read as they did. No condition beyond the row's own (the listed variables hold what the program's text lays; the card ties them). -/
import Derived.Test.YtepkimlnaoaboaaGreatDoorXP24
set_option linter.unusedVariables false
set_option linter.unusedSimpArgs false
set_option linter.unusedSectionVars false
namespace Go.Proofs.YtepkimlnaoaboaaGreatDoor.xRead
open Go Go.X Go.X.TryzW Go.ChangeShapes Go.WideShapes Go.ChangeAt Go.RowKit
set_option maxRecDepth 100000

/-- Bytes that were handed in. -/
theorem bytes_of : ∀ (rows : List (List IV)), (∀ row ∈ rows, (Ty.int .u8).Of row) → ∃ b : List UInt8, rows = bytesRows b := by
  intro rows
  induction rows with
  | nil => exact fun _ => ⟨[], rfl⟩
  | cons r rows ih =>
    intro h
    obtain ⟨n, rfl, hw⟩ := h r (by simp)
    obtain ⟨l, rfl⟩ := ih (fun r hr => h r (by simp [hr]))
    have hn : 0 ≤ n ∧ n < 256 := by
      unfold Lit.wf at hw
      have e1 : IntKind.u8.min = 0 := by rfl
      have e2 : IntKind.u8.max = 255 := by rfl
      simp at hw
      omega
    refine ⟨UInt8.ofNat n.toNat :: l, ?_⟩
    show _ = [IV.int .u8 ((UInt8.ofNat n.toNat).toNat : Int)] :: bytesRows l
    rw [show ((UInt8.ofNat n.toNat).toNat : Int) = n by rw [UInt8.toNat_ofNat']; omega]
/-- Lists of bytes that were handed in. -/
theorem lists_of : ∀ (rows : List (List IV)), (∀ row ∈ rows, (Ty.slice (.int .u8)).Of row) → ∃ l : List (List UInt8), rows = bRows l ∧ ∀ b ∈ l, b.length ≤ 9223372036854775807 := by
  intro rows
  induction rows with
  | nil => exact fun _ => ⟨[], rfl, by simp⟩
  | cons r rows ih =>
    intro h
    obtain ⟨rs, rfl, hlen, hrs⟩ := h r (by simp)
    obtain ⟨b, rfl⟩ := bytes_of rs hrs
    obtain ⟨l, rfl, hl⟩ := ih (fun r hr => h r (by simp [hr]))
    refine ⟨b :: l, rfl, fun x hx => ?_⟩
    rcases List.mem_cons.1 hx with hx | hx
    · subst hx; rw [bytesRows_len] at hlen; exact hlen
    · exact hl x hx

theorem contract (H : Type) (enc : TypeId × Value → H) (W : World) (base : Nat) (args : Array Value) (ds gs : List (DataW H)) (before : List MemPlace)
    (hval : ∀ (j : Nat) t v, Tryz.f3.params[j]? = some t → args[j]? = some v → Value.okWide Tryz.prog W .any base t v)
    (hW : DataW.Whole enc Tryz.prog Tryz.f3.params.toList Rows.frontReadSpec.vars false W args.toList ds gs before) (hsh : W.ShapedOpen Tryz.prog) (hlaid : laidMetH Tryz.prog Rows.frontReadRow.laid W) :
    Calls Tryz.prog 3 args W fun e W' => ∃ v, e = .returned v ∧ Rows.frontReadSpec.post enc Tryz.prog Tryz.f3 false true false false W args v W' := by
  obtain ⟨m, hm⟩ := maxLenCell hsh
  have hW' := hW
  obtain ⟨p, q, hA0, hV, rfl, hfz, hnd⟩ := hW
  have hA : DataW.TrodAll enc Tryz.prog W 0 (fun _ => true) true Tryz.f3.params.toList args.toList ds p := hA0
  have hpar : Tryz.f3.params.toList = [22] := rfl
  rw [hpar] at hA
  obtain ⟨v0, vs0, d0, ds0, p0, q0, hargs, rfl, rfl, h0, r0⟩ := trodAll_cons hA
  obtain ⟨rfl, rfl, rfl⟩ := trodAll_nil r0
  obtain rfl : args = #[v0] := by cases args; simp_all
  obtain ⟨rows, hl, hlen, hrows⟩ := vr_handed_slice (e := .slice (.int .u8)) (u := 23) (by kernel_rfl) (by kernel_rfl) (hval 0 22 v0 rfl rfl) h0
  obtain ⟨l, rfl, hbl⟩ := lists_of rows hrows
  rw [bRows_len] at hlen
  have ht := tab8 hlaid
  have hp := fread_pure (E := envAt Tryz.prog W (glT m) (glT_ok hm)) rfl (m := m) rfl (fun w hG => tab8_stays ht hG) l hlen hbl
  refine (law_calls (vs := [v0]) hp rfl (fun i x hi => ?_)).mono fun e W' ⟨he, hb⟩ => ?_
  · match i with
    | 0 => simp at hi; subst hi; exact hl
    | i + 1 => simp at hi
  · subst he
    exact ⟨_, rfl, post_true (t0 := 4) loT (by kernel_rfl) rfl (by kernel_rfl) Tryz.underlying4 rfl hW' hb⟩

theorem lifted (os : Os) (started : os.Started) (H : Type) (enc : TypeId × Value → H) (F : Stop.Interp) :
    ReturnsInHanded {} Tryz.checked os 3 .any ((OpenSpec.ofChange Rows.frontReadSpec).preRow enc Tryz.prog Tryz.f3 Rows.frontReadRow.domain false Rows.frontReadRow.laid) (((OpenSpec.ofChange Rows.frontReadSpec).at F).post enc Tryz.prog Tryz.f3 false true false false) := by
  obtain ⟨places, hx⟩ : ∃ places, DataW.whole enc Tryz.prog ((World.laidAll Tryz.prog os Rows.frontReadRow.laid).forCall (fun _ _ => 0) ⟨#[], #[.slice none 0 0], []⟩).memory Tryz.f3.params.toList Rows.frontReadSpec.vars false #[Value.slice none 0 0].toList 8 = some ([.nil], [], places) :=
    ⟨[], by kernel_rfl⟩
  refine returnsInHanded_of_row (C := Tryz.checked) (s := OpenSpec.ofChange Rows.frontReadSpec) ownT started (by kernel_rfl) Tryz.func3
    (witness_zip (enc := enc) (C := Tryz.checked) false (World.laidAll Tryz.prog os Rows.frontReadRow.laid) #[.slice none 0 0] (World.laidAll_os _ _ _) (by kernel_rfl) (by kernel_rfl) (by kernel_rfl)
      (OpenSpec.preRow_of_cond 8 hx (by kernel_rfl) (fun k hk => by cases hk) (by kernel_rfl) (by rw [MakeChecks.laidMetH_plain _ _ _ (by kernel_rfl)]; exact metT os _))) ?_
  intro W base args ds gs before hval hW h1 h2 h3 h4 hsh h6
  exact contract H enc W base args ds gs before hval hW hsh (by assumption)

theorem said : Rows.FrontReadSaid :=
  OpenClaim.holds_of_cond 3 Tryz.f3 rfl rfl rfl rfl rfl rfl rfl ⟨rfl, rfl, rfl, rfl, rfl⟩ rfl rfl rfl rfl rfl (by kernel_rfl) Tryz.func3 (by kernel_rfl)
    (of_decide_eq_true (by kernel_rfl)) (by unfold Func.isWrapper; first | (rw [if_pos (by decide +kernel)]; kernel_rfl) | (rw [if_neg (by decide +kernel)]; exact ⟨rfl, rfl⟩))
    (fun os started H enc _ F => by rw [OpenClaim.pre_eq_preRow]; exact lifted os started H enc F)

theorem plain (f : FuncId) (fn : Func) (hf : Tryz.pinned.checked.prog.funcNamed Rows.frontReadRow.func = some f) (hfn : Tryz.pinned.checked.prog.funcs[f]? = some fn) :
    true = Tryz.pinned.checked.prog.looks [] ∧ ∀ (j : Nat) t, fn.params[j]? = some t → Tryz.pinned.checked.prog.wantsStandIn t = false := by
  obtain rfl : f = 3 := Option.some.inj ((show Tryz.prog.funcNamed Rows.frontReadRow.func = some 3 by kernel_rfl).symm.trans hf) |>.symm
  obtain rfl : fn = Tryz.f3 := (Option.some.inj (Tryz.func3.symm.trans hfn)).symm
  refine ⟨by kernel_rfl, fun j t ht => ?_⟩
  have hpar : Tryz.f3.params = #[22] := rfl
  rw [hpar] at ht
  have h : t = 22 := by
    have := Array.mem_of_getElem? ht
    simp at this; exact this
  subst h
  exact (show Tryz.prog.wantsStandIn 22 = false by kernel_rfl)

theorem card : Rows.FrontReadCardSaid :=
  Claim7.holds_tied_plain_at .later [] _ _ _ _ said (fun _ h => by cases h) (by kernel_rfl) (fun _ h => by cases h) frontRead_row_tie rfl ⟨rfl, rfl⟩ (by kernel_rfl) rfl plain (by kernel_rfl)
end Go.Proofs.YtepkimlnaoaboaaGreatDoor.xRead
