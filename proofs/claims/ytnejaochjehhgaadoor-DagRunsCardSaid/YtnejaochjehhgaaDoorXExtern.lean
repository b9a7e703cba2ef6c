/- The calculus X, part 21: what the model answers by itself: bytes in a string. -/
import Derived.Test.YtnejaochjehhgaaDoorXDone
import Derived.Lib.Bytealg
set_option linter.unusedVariables false
set_option linter.unusedSimpArgs false
set_option linter.unusedSectionVars false
namespace Go.X
open Go
section
variable {E : Env}

theorem run_globalAddr {P : Program} {name : String} {g : Nat} (h : P.globals.findIdx? (·.name == name) = some g) (w : World) : (globalAddr name).run P w = .ok ⟨g, 0, none⟩ w := by
  unfold globalAddr
  simp only [Sem.run_bind, run_program, Result.andThen_ok, h, Sem.run_pure]
theorem run_asInt {P : Program} {k : IntKind} {m : Int} (w : World) : (asInt (.int k m)).run P w = .ok m w := rfl

theorem ext_mk {f : FuncId} {fn : Func} {en : Array Value → Sem Value} {args : List IV} {r : IV} (hf : E.P.funcs[f]? = some fn) (hname : (fn.name == "runtime.NumGoroutine") = false)
    (hb : fn.body.isNone = true) (hn : Extern.findNext fn = none) (he : Extern.find fn = some en)
    (h : ∀ (C : Ctx) (vs : List Value), E.G C.w → args.length = vs.length → (∀ (i : Nat) (x : IV), args[i]? = some x → VR C x (vs.getD i undef)) → ∃ v, (en vs.toArray).run E.P C.w = .ok v C.w ∧ VR C r v) : XExt E f args r := by
  intro C vs hG hl hv
  obtain ⟨v, h1, h2⟩ := h C vs hG hl hv
  refine ⟨v, ?_, h2⟩
  rw [run_callFunc_extern hf hname hb hn he, h1]; rfl

theorem two {C : Ctx} {x y : IV} {vs : List Value} (hl : [x, y].length = vs.length) (hv : ∀ (i : Nat) (z : IV), [x, y][i]? = some z → VR C z (vs.getD i undef)) :
    ∃ a b, vs = [a, b] ∧ VR C x a ∧ VR C y b := by
  match vs, hl with
  | [a, b], _ => exact ⟨a, b, rfl, hv 0 x rfl, hv 1 y rfl⟩

theorem ext_indexByte {f : FuncId} {fn : Func} (hf : E.P.funcs[f]? = some fn) (hname : (fn.name == "runtime.NumGoroutine") = false)
    (hb : fn.body.isNone = true) (hn : Extern.findNext fn = none) (he : Extern.find fn = some Extern.BytealgIndexByte.indexByte) (s : List UInt8) (c : Int) :
    XExt E f [.str s, .int .u8 c] (.int .i64 (Lib.indexByte s c.toNat.toUInt8)) := by
  refine ext_mk hf hname hb hn he fun C vs _ hl hv => ?_
  obtain ⟨a, b, rfl, h1, h2⟩ := two hl hv
  cases h1; cases h2
  refine ⟨_, run_indexByte_string _ _ _, ?_⟩
  rw [Lib.firstIdx_eq]; exact .int _ _

theorem ext_countByte {f : FuncId} {fn : Func} (hf : E.P.funcs[f]? = some fn) (hname : (fn.name == "runtime.NumGoroutine") = false)
    (hb : fn.body.isNone = true) (hn : Extern.findNext fn = none) (he : Extern.find fn = some Extern.BytealgCount.count) (s : List UInt8) (c : Int) :
    XExt E f [.str s, .int .u8 c] (.int .i64 (Lib.countByte s c.toNat.toUInt8)) := by
  refine ext_mk hf hname hb hn he fun C vs _ hl hv => ?_
  obtain ⟨a, b, rfl, h1, h2⟩ := two hl hv
  cases h1; cases h2
  exact ⟨_, Lib.run_countString _ _ _, .int _ _⟩

/-- bytealg.IndexString at a text that does not hold the first byte. -/
theorem ext_indexNone {f : FuncId} {fn : Func} {m : Int} (hf : E.P.funcs[f]? = some fn) (hname : (fn.name == "runtime.NumGoroutine") = false)
    (hb : fn.body.isNone = true) (hn : Extern.findNext fn = none) (he : Extern.find fn = some Extern.BytealgIndex.index)
    (hmax : ∀ w, E.G w → Extern.BytealgIndex.maxLen.run E.P w = .ok m w) (s p : List UInt8) (h2 : 2 ≤ p.length) (hpm : (p.length : Int) ≤ m) (hs : s.length < 4294967281)
    (hno : ∀ (i : Nat), i + p.length ≤ s.length → ((s.drop i).take p.length) ≠ p) :
    XExt E f [.str s, .str p] (.int .i64 (-1)) := by
  refine ext_mk hf hname hb hn he fun C vs hG hl hv => ?_
  obtain ⟨a, b, rfl, h1, h2'⟩ := two hl hv
  cases h1; cases h2'
  refine ⟨.int .i64 (-1), ?_, .int _ _⟩
  have hmax := hmax C.w hG
  change Sem.run E.P (do
    let a ← Extern.Bytes.bytesOf (.string ⟨s.toArray⟩)
    let b ← Extern.Bytes.bytesOf (.string ⟨p.toArray⟩)
    if b.size < 2 || (b.size : Int) > (← Extern.BytealgIndex.maxLen) then
      unsupported _
    if a.size ≥ 2 ^ 32 - 15 then
      unsupported _
    match (List.range (a.size + 1 - b.size)).find? fun i => a.extract i (i + b.size) == b with
    | some i => pure (goInt i)
    | none => pure (goInt (-1))) C.w = _
  simp only [Extern.Bytes.bytesOf, Sem.run_bind, Sem.run_pure, Result.andThen_ok, hmax]
  have e1 : (ByteArray.mk p.toArray).size = p.length := by simp [ByteArray.size]
  have e2 : (ByteArray.mk s.toArray).size = s.length := by simp [ByteArray.size]
  rw [e1, e2]
  have c1 : (decide (p.length < 2) || decide ((p.length : Int) > m)) = false := by simp; omega
  have c2 : ¬ (s.length ≥ 2 ^ 32 - 15) := by omega
  simp only [c1, c2, Bool.false_eq_true, if_false, Sem.run_pure, Result.andThen_ok, Sem.run_bind]
  have hf : (List.range (s.length + 1 - p.length)).find? (fun i => (ByteArray.mk s.toArray).extract i (i + p.length) == ByteArray.mk p.toArray) = none := by
    rw [List.find?_eq_none]
    intro i hi hEq
    rw [List.mem_range] at hi
    refine hno i (by omega) ?_
    have h3 : ((ByteArray.mk s.toArray).extract i (i + p.length)).data = p.toArray := by
      have h5 : (((ByteArray.mk s.toArray).extract i (i + p.length)).data == p.toArray) = true := hEq
      simpa using h5
    have h4 := congrArg Array.toList h3
    simpa [ByteArray.data_extract] using h4
  rw [hf]
  rfl
end
end Go.X
