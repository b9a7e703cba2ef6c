/- Parts of the proof: XEx. -/
import Derived.Test.YtepkimlnaoaboabGreatDoorXP4
import Derived.Lib.Builder
import Derived.Lib.UnsafeStr
import Derived.Lib.ConvBytes
import Derived.Laws.BytesString
import Derived.Laws.Cover4
import Derived.Laws.StructEq
import Derived.LaidEql
set_option linter.unusedVariables false
set_option linter.unusedSimpArgs false
set_option linter.unusedSectionVars false
section
/- The calculus X: the further operations do what they say. -/
namespace Go.X
open Go
section
variable {E : Env} {C : Ctx} {a : Act} {o : Oper} {e : Opd → IV} {K : IV → List Blk → Prop} {g : Nat}

theorem new_postT {g : Nat} (hg : Free C.L g) {c : Array Value} {ty : TypeId} {fr : Nat × Nat} {sz : Nat} {rows : List (List IV)} {r : IV} {v : Value} (wf : Wf E.g0 C) (sim : Sim C) (hfr : frOk c.size fr)
    (hf : Flat C c 0 sz rows) (hv : VR (newC C g (.cells c ty fr) (.tcells ty sz rows) sz) r v) (h : K r (layAt C.L g (.tcells ty sz rows))) :
    Post E C K v (pushW C.w (.cells c ty fr)) := by
  refine ⟨r, layAt C.L g (Blk.tcells ty sz rows), newφ C g sz, h, new_wf (o := .cells c ty fr) hg wf sim, new_sim (o := .cells c ty fr) hg sim ?_, new_ext hg (.cells c ty fr) (.tcells ty sz rows) sz, hv⟩
  have hf' := hf.mono (new_ext hg (.cells c ty fr) (.tcells ty sz rows) sz)
  refine ⟨⟨by simp [newC, newφ], c, ty, fr, by simp only [newC, newφ, if_true]; exact heap_push_eq, hfr, ?_, ?_⟩, by simp [newC, newφ], c, fr, by simp only [newC, newφ, if_true]; exact heap_push_eq⟩
  · simpa [newC, newφ] using hf'.1
  · intro i row hi
    refine ⟨(hf'.2 i row hi).1, fun j x hj => ?_⟩
    obtain ⟨u, h1, h2⟩ := (hf'.2 i row hi).2 j x hj
    exact ⟨u, by simpa [newC, newφ] using h1, h2⟩

theorem good_allocT {g : Nat} (hg : Free C.L g) (wf : Wf E.g0 C) (sim : Sim C) {t : TypeId} {z : List IV} (ho : o.op = .alloc t) (hz : zeroCells E.P t = some z)
    (h : K (.ptr g 0 0) (layAt C.L g (.tcells t (z.map rawNil).length [z.map rawNil]))) : Good E C a o K := by
  obtain ⟨i, v, h1, h2, h3, h4⟩ := zeroCells_spec hz
  have h5 : ∀ (j : Nat) (x : IV), (z.map rawNil)[j]? = some x → ∃ u, v.cells[j]? = some u ∧ VR C x u := fun j x hj => by
    rw [List.getElem?_map, Option.map_eq_some_iff] at hj
    obtain ⟨y, hy, rfl⟩ := hj
    obtain ⟨u, h6, h7⟩ := h4 C j y hy
    refine ⟨u, h6, ?_⟩
    unfold rawNil
    split
    · cases h7; exact .raw _ rfl
    · exact h7
  refine good_value (s := Instr.alloc t true (.tuple #[])) (v := .pointer (some ⟨C.w.heap.size, 0, none⟩)) (w' := pushW C.w (.cells v.cells t)) (by unfold execOp; rw [ho]) ?_
    (new_postT hg wf sim (frOk_zero _) (flat_zero (by rw [List.length_map]; exact h3) h5) (vr_new_ptr hg) h)
  unfold Instr.alloc
  rw [Sem.run_bind, run_zeroValue h1 h2]
  rfl

theorem good_mkif (sim : Sim C) (he : Opds C a e) {t : TypeId} {x : Operand} {x' : Opd} (ho : o.op = .makeInterface t x) (hc : E.P.concrete t = true) (hx : opd x = some x') (h : K (.iface t (e x')) C.L) : PureG E C a o K :=
  pure_value (s := Instr.makeInterface t (a.eval x)) (by unfold execOp; rw [ho]) (run_makeInterface _ t _ hc) (psame (.iface _ _ _ (he x x' hx)) h)

theorem good_panic (wf : Wf E.g0 C) (sim : Sim C) (he : Opds C a e) {x : Operand} {x' : Opd} (ho : o.op = .panic x) (hx : opd x = some x') {t : TypeId} {y : IV} (hxy : e x' = .iface t y) (h : E.pan (.iface t y) C.L) : Good E C a o K := by
  have hv := he x x' hx
  rw [hxy] at hv
  generalize hxe : a.eval x = xv at hv
  cases hv with
  | iface _ _ u hu =>
  refine .inr (.inr (.inr (.inr ⟨.iface t u, C.w, ?_, post_same wf sim (.iface _ _ _ hu) h⟩)))
  have e1 : execOp a.eval o = (do pure (Next.value (← Instr.panic (a.eval x)))) := by unfold execOp; rw [ho]
  rw [e1, hxe, Sem.run_bind]
  rfl

theorem good_sdata (sim : Sim C) (he : Opds C a e) {c : Call} {x : Operand} {x' : Opd} (ho : o.op = .call c) (hcb : c.callee = .builtin .unsafeSliceData) (hargs : c.args.toList = [x])
    (hx : opd x = some x') (h : xex E .sdata [e x'] g C.L K) : PureG E C a o K := by
  have hv := he x x' hx
  generalize hxe : a.eval x = xv at hv
  generalize e x' = ex at *
  have e1 : c.args.map a.eval = #[xv] := by apply Array.ext'; simp [hargs, hxe]
  have key : ∀ {u : Value} {r : IV}, (Builtin.unsafeSliceData_ c.argTypes o.type #[xv]).run E.P C.w = .ok u C.w → VR C r u → K r C.L → PureG E C a o K := fun {u r} hr hu hk =>
    pure_mk ⟨u, C.w, by
      rw [exec_builtin ho hcb, e1]
      show (do pure (Next.value (← Builtin.unsafeSliceData_ c.argTypes o.type #[xv])) : Sem Next).run E.P C.w = _
      rw [Sem.run_bind, hr]; rfl, psame hu hk⟩
  simp only [xex] at h
  split at h
  · rename_i heq
    obtain rfl : ex = .nsl := by simpa using heq
    cases hv
    exact key (Lib.run_unsafeSliceData_nil _ _ _ _ _) (.raw _ rfl) h
  · rename_i heq
    obtain rfl : ex = .raw (.slice none 0 0) := by simpa using heq
    cases hv
    exact key (Lib.run_unsafeSliceData_nil _ _ _ _ _) (.raw _ rfl) h
  · rename_i s off len cap heq
    obtain rfl : ex = .sl s off len cap := by simpa using heq
    cases hv with
    | sl _ _ _ _ av cap' hs hl hc ha =>
    obtain ⟨rfl, _⟩ := ha.resolve_left (by omega)
    refine key (Lib.run_unsafeSliceData_row _ _ _ _ _ _ (by omega)) ?_ h.2
    have := VR.ptr (C := C) s off 0 hs
    simpa using this
  · exact h.elim

theorem eqPtr_run {P : Program} {t el : TypeId} {n : Nat} (ht : P.underlying t = some (.pointer el)) (hn : sizeT P el = some n) (hn0 : n ≠ 0) (w : World) (neg : Bool) (x y : Operand) {xv yv : Value} {b : Bool}
    (h : (∃ q, xv = .pointer q ∧ yv = .pointer q ∧ b = true) ∨ (∃ q, xv = .pointer (some q) ∧ yv = .pointer none ∧ b = false) ∨ ∃ q, xv = .pointer none ∧ yv = .pointer (some q) ∧ b = false) :
    (do eqGuard (if neg then .neq else .eql) t x y xv yv; binOp (if neg then .neq else .eql) t xv yv : Sem Value).run P w = .ok (.bool (if neg then !b else b)) w := by
  obtain ⟨j, hj, hjs⟩ : ∃ j, P.info? el = some j ∧ j.size = n := by
    unfold sizeT at hn; rw [Option.map_eq_some_iff] at hn; exact hn
  have key : ∀ d, (Op.equalIn (d + 1) t xv yv).run P w = .ok b w := fun d => by
    rcases h with ⟨q, rfl, rfl, rfl⟩ | ⟨q, rfl, rfl, rfl⟩ | ⟨q, rfl, rfl, rfl⟩
    · cases q with
      | none => simp [Op.equalIn, run_underlying ht]
      | some q => simp [Op.equalIn, run_underlying ht, sizeOf, typeInfo, hj, run_sameAddr_same, hjs, hn0]
    · simp [Op.equalIn, run_underlying ht]
    · simp [Op.equalIn, run_underlying ht]
  have hp : ∃ p q, xv = .pointer p ∧ yv = .pointer q := by
    rcases h with ⟨q, rfl, rfl, _⟩ | ⟨q, rfl, rfl, _⟩ | ⟨q, rfl, rfl, _⟩ <;> exact ⟨_, _, rfl, rfl⟩
  obtain ⟨p, q, rfl, rfl⟩ := hp
  exact eq_of_equal neg x y (by cases neg <;> rfl) (by cases neg <;> simp [binOp]) (key 9999)

theorem good_eqP (sim : Sim C) (he : Opds C a e) {op : BinOp} {t ty el : TypeId} {n : Nat} {x y : Operand} {x' y' : Opd} {neg : Bool} (ho : o.op = .binOp op t x y ty) (hop : op = if neg then .neq else .eql) (ht : E.P.underlying t = some (.pointer el))
    (hn : sizeT E.P el = some n) (hn0 : n ≠ 0) (hx : opd x = some x') (hy : opd y = some y') (h : xex E (.eqP neg) [e x', e y'] g C.L K) : PureG E C a o K := by
  have hxv := he x x' hx
  have hyv := he y y' hy
  subst hop
  simp only [xex] at h
  split at h
  · rename_i b hb
    refine pure_value (s := do eqGuard (if neg then .neq else .eql) t x y (a.eval x) (a.eval y); binOp (if neg then .neq else .eql) t (a.eval x) (a.eval y)) (v := .bool (if neg then !b else b)) (w' := C.w) (by unfold execOp; rw [ho]) ?_ (psame (.bool _) h)
    refine eqPtr_run ht hn hn0 C.w neg x y ?_
    generalize a.eval x = xv at *
    generalize a.eval y = yv at *
    generalize e x' = ex at *
    generalize e y' = ey at *
    unfold eqPtr at hb
    split at hb
    · split at hb
      · rename_i hs
        obtain ⟨rfl, rfl, rfl⟩ := hs
        cases hb
        cases hxv; cases hyv
        exact .inl ⟨_, rfl, rfl, rfl⟩
      · cases hb
    · cases hb; cases hxv; cases hyv
      exact .inr (.inl ⟨_, rfl, rfl, rfl⟩)
    · cases hb; cases hxv; cases hyv
      exact .inr (.inr ⟨_, rfl, rfl, rfl⟩)
    · cases hb; cases hxv; cases hyv
      exact .inr (.inl ⟨_, rfl, rfl, rfl⟩)
    · cases hb; cases hxv; cases hyv
      exact .inl ⟨_, rfl, rfl, rfl⟩
    · cases hb
  · exact h.elim

theorem liesAt_self {P : Program} {e : TypeId} (hc : P.cellsOf e ≠ 0) {count : Nat} (hn : 1 ≤ count) : liesAt P P.depth e count 0 e 1 = true := by
  have hd : P.depth = (2 * (P.types.size + Made.depth) + 1) + 1 := rfl
  rw [hd]
  simp only [liesAt, Bool.or_eq_true]
  left
  rw [hd]
  simp [rowAt, hc, hn, sameLayout]

theorem good_ptrU (sim : Sim C) (he : Opds C a e) {s d : TypeId} {x : Operand} {x' : Opd} (ho : o.op = .convert s d x) (hx : opd x = some x') {ty n sl r of : Nat} (hxe : e x' = .ptr sl r of) (h : xptrU ty n sl r of C.L K)
    (hr : ∀ (b cells : Nat), C.w.shape? b = some (ty, cells) → n ≤ cells → 0 < cells → (convert s d (.pointer (some ⟨b, 0, none⟩))).run E.P C.w = .ok (.pointer (some ⟨b, 0, none⟩)) C.w) : PureG E C a o K := by
  have hv := he x x' hx
  rw [hxe] at hv
  obtain ⟨rfl, rfl, h⟩ := h
  split at h
  · rename_i ty' sz row hL
    obtain ⟨rfl, h1, h2, h3⟩ := h
    obtain ⟨⟨hsz, c, e1, fr, hc, _, hle, _⟩, hb0, c', fr', hc'⟩ := sim sl _ hL
    rw [hc] at hc'
    obtain ⟨rfl, rfl, rfl⟩ := by simpa using hc'
    generalize hxv : a.eval x = xv at hv
    cases hv with
    | ptr _ _ _ hs =>
    have hsh : C.w.shape? (C.φ sl).blk = some (e1, c.size) := by simp [World.shape?, hc]
    have hle' : sz ≤ c.size := by simpa [hb0] using hle
    have hrr := hr _ _ hsh (by omega) (by omega)
    have ev : (Value.pointer (some ⟨(C.φ sl).blk, (C.φ sl).base + 0 * (C.φ sl).sz + 0, none⟩)) = .pointer (some ⟨(C.φ sl).blk, 0, none⟩) := by rw [hb0]; simp
    rw [ev] at hxv
    refine pure_value (s := convert s d (a.eval x)) (by unfold execOp; rw [ho]) (by rw [hxv]; exact hrr) (psame (r := .ptr sl 0 0) ?_ h3)
    have := VR.ptr (C := C) sl 0 0 hs
    rw [ev] at this
    exact this
  · exact h.elim

theorem good_toU (sim : Sim C) (he : Opds C a e) {s d t : TypeId} {x : Operand} {x' : Opd} {n m : Nat} (ho : o.op = .convert s d x) (hs : E.P.underlying s = some (.pointer t)) (hd : E.P.underlying d = some .unsafePointer) (hn : sizeT E.P t = some n) (hn0 : n ≠ 0)
    (hx : opd x = some x') (h : xex E (.toU t m) [e x'] g C.L K) : PureG E C a o K := by
  obtain ⟨j, hj, hjs⟩ : ∃ j, E.P.info? t = some j ∧ j.size = n := by unfold sizeT at hn; rw [Option.map_eq_some_iff] at hn; exact hn
  simp only [xex] at h
  split at h
  · rename_i s0 r0 o0 heq
    obtain heq : e x' = .ptr s0 r0 o0 := by simpa using heq
    exact good_ptrU sim he ho hx heq h fun b cells hsh _ hc => Lib.run_to_unsafe _ ⟨b, 0, none⟩ hs hd hj (by omega) hsh hc
  · exact h.elim
theorem good_ofU (sim : Sim C) (he : Opds C a e) {s d t : TypeId} {x : Operand} {x' : Opd} {n : Nat} (ho : o.op = .convert s d x) (hs : E.P.underlying s = some .unsafePointer) (hd : E.P.underlying d = some (.pointer t)) (hn : sizeT E.P t = some n) (hn0 : n ≠ 0) (hcs : E.P.cellsOf t = n)
    (hx : opd x = some x') (h : xex E (.ofU t n) [e x'] g C.L K) : PureG E C a o K := by
  obtain ⟨j, hj, hjs⟩ : ∃ j, E.P.info? t = some j ∧ j.size = n := by unfold sizeT at hn; rw [Option.map_eq_some_iff] at hn; exact hn
  simp only [xex] at h
  split at h
  · rename_i s0 r0 o0 heq
    obtain heq : e x' = .ptr s0 r0 o0 := by simpa using heq
    exact good_ptrU sim he ho hx heq h fun b cells hsh h1 hc => Lib.run_from_unsafe _ ⟨b, 0, none⟩ hs hd hj hsh (liesAt_self (by omega) (by rw [hcs]; exact (Nat.le_div_iff_mul_le (by omega)).2 (by omega)))
  · exact h.elim

theorem good_strB {g : Nat} (hg : Free C.L g) (wf : Wf E.g0 C) (sim : Sim C) (he : Opds C a e) {s d el : TypeId} {x : Operand} {x' : Opd} (ho : o.op = .convert s d x) (hs : E.P.underlying s = some .string) (hd : E.P.underlying d = some (.slice el)) (hel : E.P.underlying el = some (.int .u8))
    (hx : opd x = some x') (h : xex E (.strB el) [e x'] g C.L K) : Good E C a o K := by
  have hv := he x x' hx
  simp only [xex] at h
  split at h
  · rename_i t heq
    obtain heq : e x' = .str t := by simpa using heq
    rw [heq] at hv
    generalize hxv : a.eval x = xv at hv
    cases hv
    have hw : Lib.bytesWorld C.w el ⟨t.toArray⟩ = pushW (drewC C).w (.cells (Lib.bytesCells C.w el ⟨t.toArray⟩) el ((Lib.bytesCells C.w el ⟨t.toArray⟩).size, (Lib.bytesCells C.w el ⟨t.toArray⟩).size + 1)) := by
      have hh : (Lib.bytesWorld C.w el ⟨t.toArray⟩).heap = C.w.heap.push (.cells (Lib.bytesCells C.w el ⟨t.toArray⟩) el ((Lib.bytesCells C.w el ⟨t.toArray⟩).size, (Lib.bytesCells C.w el ⟨t.toArray⟩).size + 1)) := by
        apply Array.ext_getElem?
        intro j
        rw [Array.getElem?_push]
        rcases Nat.lt_trichotomy j C.w.heap.size with h1 | h1 | h1
        · rw [if_neg (by omega)]; exact Lib.bytesWorld_at_old _ _ _ _ h1
        · rw [if_pos h1, h1]; exact Lib.bytesWorld_at_new _ _ _
        · rw [if_neg (by omega), Array.getElem?_eq_none (by rw [Lib.bytesWorld_size]; omega), Array.getElem?_eq_none (by omega)]
      have e1 : Lib.bytesWorld C.w el ⟨t.toArray⟩ = { (drewC C).w with heap := (Lib.bytesWorld C.w el ⟨t.toArray⟩).heap } := by
        unfold Lib.bytesWorld World.freeze
        simp only [Nat.one_ne_zero, if_false]
        rfl
      rw [e1, hh]; rfl
    have hsz : (Lib.bytesCells C.w el ⟨t.toArray⟩).size = t.length + (grownCap C.w t.length 0 el - t.length) := by
      simp [Lib.bytesCells, ByteArray.size]
    have hcap : t.length ≤ grownCap C.w t.length 0 el := by
      exact grownCap_ge _ _ _ _
    refine good_value (s := convert s d (a.eval x)) (v := .slice (some ⟨C.w.heap.size, 0, none⟩) t.length (grownCap C.w t.length 0 el)) (w' := Lib.bytesWorld C.w el ⟨t.toArray⟩) (by unfold execOp; rw [ho]) ?_ ?_
    · rw [hxv]
      have := Lib.run_convert_string_bytes (P := E.P) C.w s d el ⟨t.toArray⟩ hs hd hel
      simpa [ByteArray.size] using this
    · rw [hw]
      refine Post.of_ext (drew_ext C) rfl ?_
      refine new_postT (C := drewC C) (sz := 1) (rows := bytesRows t) hg (drew_wf wf) (drew_sim sim) (.inr (Nat.le_refl _)) ?_ (vr_new_slF (C := drewC C) (cap' := grownCap C.w t.length 0 el) hg (Nat.le_refl _) hcap (by rw [hsz, Nat.mul_one]; omega)) h
      refine ⟨by rw [hsz]; simp [bytesRows], fun i row hi => ?_⟩
      unfold bytesRows at hi
      rw [List.getElem?_map, Option.map_eq_some_iff] at hi
      obtain ⟨b, hb, rfl⟩ := hi
      refine ⟨rfl, fun j y hj => ?_⟩
      cases j with
      | zero =>
        simp at hj; subst hj
        refine ⟨.int .u8 b.toNat, ?_, .int _ _⟩
        have hi := lt_of_getL hb
        simp only [Lib.bytesCells, Nat.zero_add, Nat.mul_one, Nat.add_zero]
        rw [Array.getElem?_append_left (by simpa using hi)]
        simp [hb]
      | succ j => simp at hj
  · exact h.elim

theorem byteOf_some {row : List IV} {b : UInt8} (h : byteOf row = some b) : row = [.int .u8 b.toNat] := by
  unfold byteOf at h
  split at h
  · rename_i n
    split at h
    · rename_i hn; cases h; rw [← hn]
    · cases h
  · cases h
theorem byteOf_of (b : UInt8) : byteOf [.int .u8 b.toNat] = some b := by
  unfold byteOf
  simp
theorem byteRows_of {rs : List (List IV)} {s : List UInt8} (h : mapO byteOf rs = some s) {news : List Value} (hf : FlatL C news 1 rs) : ∃ ns : List Int, news = ns.map (Value.int .u8) ∧ ns.length = s.length ∧ ∀ (i : Nat) (n : Int) (b : UInt8), ns[i]? = some n → s[i]? = some b → UInt8.ofNat n.toNat = b := by
  refine ⟨(List.range news.length).map fun i => match news.getD i undef with | .int _ n => n | _ => 0, ?_, ?_, ?_⟩
  · apply List.ext_getElem?
    intro i
    simp only [List.map_map, List.getElem?_map]
    rcases Nat.lt_or_ge i news.length with hi | hi
    · have hi' : i < rs.length := by rw [hf.1] at hi; omega
      obtain ⟨b, hb1, hb2⟩ := mapO_get' h i _ (List.getElem?_eq_getElem hi')
      have hrow := byteOf_some hb2
      obtain ⟨_, h2⟩ := hf.2 i _ (List.getElem?_eq_getElem hi')
      obtain ⟨u, h3, h4⟩ := h2 0 (.int .u8 b.toNat) (by rw [hrow]; rfl)
      cases h4
      rw [Nat.mul_one, Nat.add_zero] at h3
      rw [h3, List.getElem?_range hi]
      simp [List.getD, h3]
    · rw [List.getElem?_eq_none hi, List.getElem?_eq_none (by simpa using hi)]; rfl
  · rw [List.length_map, List.length_range, hf.1, mapO_len h, Nat.mul_one]
  · intro i n b hn hb
    obtain ⟨row, h1, h2⟩ := mapO_get h i b hb
    obtain ⟨_, h3⟩ := hf.2 i row h1
    obtain ⟨u, h4, h5⟩ := h3 0 (.int .u8 b.toNat) (by rw [byteOf_some h2]; rfl)
    cases h5
    rw [Nat.mul_one, Nat.add_zero] at h4
    rw [List.getElem?_map, Option.map_eq_some_iff] at hn
    obtain ⟨k, hk, rfl⟩ := hn
    have hi := lt_of_getL h4
    rw [List.getElem?_range hi] at hk
    cases hk
    simp [List.getD, h4]

theorem bytes_eq {ns : List Int} {s : List UInt8} (hl : ns.length = s.length) (h : ∀ (i : Nat) (n : Int) (b : UInt8), ns[i]? = some n → s[i]? = some b → UInt8.ofNat n.toNat = b) :
    ns.foldl (fun r n => r.push (UInt8.ofNat n.toNat)) ByteArray.empty = ⟨s.toArray⟩ := by
  have key : ∀ (ns : List Int) (r : ByteArray), ns.foldl (fun r n => r.push (UInt8.ofNat n.toNat)) r = ⟨r.data ++ (ns.map fun n => UInt8.ofNat n.toNat).toArray⟩ := by
    intro ns
    induction ns with
    | nil => intro r; simp
    | cons n ns ih =>
      intro r
      rw [List.foldl_cons, ih]
      apply ByteArray.ext
      simp [ByteArray.push]
  rw [key]
  have e1 : ns.map (fun n => UInt8.ofNat n.toNat) = s := by
    apply List.ext_getElem?
    intro i
    rw [List.getElem?_map]
    rcases Nat.lt_or_ge i s.length with hi | hi
    · have hi' : i < ns.length := by omega
      rw [List.getElem?_eq_getElem hi', List.getElem?_eq_getElem hi]
      exact congrArg some (h i _ _ (List.getElem?_eq_getElem hi') (List.getElem?_eq_getElem hi))
    · rw [List.getElem?_eq_none (by omega), List.getElem?_eq_none hi]; rfl
  rw [e1]
  apply ByteArray.ext
  show #[] ++ s.toArray = s.toArray
  simp

theorem good_bStr (sim : Sim C) (he : Opds C a e) {s d el : TypeId} {x : Operand} {x' : Opd} (ho : o.op = .convert s d x) (hs : E.P.underlying s = some (.slice el)) (hel : E.P.underlying el = some (.int .u8)) (hd : E.P.underlying d = some .string)
    (hx : opd x = some x') (h : xex E .bStr [e x'] g C.L K) : PureG E C a o K := by
  have hv := he x x' hx
  simp only [xex] at h
  split at h
  · rename_i t heq
    obtain ⟨rs, h1, h2⟩ := Option.bind_eq_some_iff.1 heq
    have hrs : rowsOf C.L (e x') = some rs := by
      unfold rowsSl at h1; split at h1
      · cases h1
      · exact h1
    have hsl : ∃ av l c, a.eval x = .slice av l c := by
      generalize e x' = ex at *
      generalize a.eval x = xv at *
      cases hv <;> first
        | exact ⟨_, _, _, rfl⟩
        | (simp only [rowsSl] at h1; cases h1; done)
        | (simp only [rowsOf] at hrs; cases hrs; done)
    obtain ⟨av, l, c, hxv⟩ := hsl
    rw [hxv] at hv
    have hone : ∀ row ∈ rs, row.length = 1 := fun row hr => by
      obtain ⟨i, hi⟩ := List.getElem?_of_mem hr
      obtain ⟨b, _, hb⟩ := mapO_get' h2 i row hi
      rw [byteOf_some hb]; rfl
    obtain ⟨news, hfl, hlen, hfirst⟩ := src_cells (E := E) sim hv hrs hone
    obtain ⟨ns, hns, hl, hb⟩ := byteRows_of h2 hfl
    have hl' : l = rs.length := by
      have : (Builtin.lenOf (.slice av l c)).run E.P C.w = (pure rs.length : Sem Nat).run E.P C.w := by rw [hlen]
      simpa [Builtin.lenOf, Sem.run_pure] using this
    subst hl'
    have hf := hfirst C.w rfl
    refine pure_value (s := convert s d (a.eval x)) (by unfold execOp; rw [ho]) (v := .string ⟨t.toArray⟩) (w' := C.w) ?_ (psame (.str _) h)
    rw [hxv, run_convert_bytes_string _ _ _ _ _ _ _ hs hel hd]
    cases av with
    | none =>
      have : news = [] := by
        have : (Builtin.firstCells 1 rs.length (.slice none rs.length c)).run E.P C.w = .ok #[] C.w := rfl
        rw [this] at hf
        have := (Result.ok.inj hf).1
        simpa using this.symm
      subst this
      have hns0 : ns = [] := by simpa using hns.symm
      subst hns0
      have ht : t = [] := List.eq_nil_of_length_eq_zero (by simpa using hl.symm)
      subst ht
      rfl
    | some av =>
      have hf' : (loadCells av rs.length).run E.P C.w = .ok (ns.map (Value.int .u8)).toArray C.w := by
        rw [← hns]
        have : (Builtin.firstCells 1 rs.length (.slice (some av) rs.length c)) = loadCells av (rs.length * 1) := rfl
        rw [this, Nat.mul_one] at hf
        exact hf
      rw [run_bytesToString _ _ _ _ ns hf', bytes_eq hl hb]
  · exact h.elim

theorem isI32_of {P : Program} {t : TypeId} (h : isI32 P t = true) : P.underlying t = some (.int .i32) := by
  unfold isI32 at h
  split at h
  · assumption
  · cases h
theorem runeOf_some {row : List IV} {n : Int} (h : runeOf row = some n) : row = [.int .i32 n] := by
  unfold runeOf at h
  split at h
  · cases h; rfl
  · cases h
theorem runeRows_of {rs : List (List IV)} {ns : List Int} (h : mapO runeOf rs = some ns) {news : List Value} (hf : FlatL C news 1 rs) : news = ns.map (Value.int .i32) := by
  apply List.ext_getElem?
  intro i
  rw [List.getElem?_map]
  rcases Nat.lt_or_ge i news.length with hi | hi
  · have hi' : i < rs.length := by rw [hf.1] at hi; omega
    obtain ⟨b, hb1, hb2⟩ := mapO_get' h i _ (List.getElem?_eq_getElem hi')
    have hrow := runeOf_some hb2
    obtain ⟨_, h2⟩ := hf.2 i _ (List.getElem?_eq_getElem hi')
    obtain ⟨u, h3, h4⟩ := h2 0 (.int .i32 b) (by rw [hrow]; rfl)
    cases h4
    rw [Nat.mul_one, Nat.add_zero] at h3
    rw [h3, hb1]; rfl
  · rw [List.getElem?_eq_none hi, List.getElem?_eq_none (by rw [mapO_len h]; rw [hf.1] at hi; omega)]; rfl
theorem runes_eq (ns : List Int) : runesBytes ns = ⟨(runesL ns).toArray⟩ := by
  have key : ∀ (ns : List Int) (r : ByteArray), ns.foldl (fun r n => r ++ Utf8.encode n) r = ⟨(r.data.toList ++ runesL ns).toArray⟩ := by
    intro ns
    induction ns with
    | nil => intro r; simp [runesL]
    | cons n ns ih =>
      intro r
      rw [List.foldl_cons, ih]
      apply ByteArray.ext
      simp [runesL, ByteArray.data_append]
  unfold runesBytes
  rw [key]
  simp
theorem good_rStr (sim : Sim C) (he : Opds C a e) {s d el : TypeId} {x : Operand} {x' : Opd} (ho : o.op = .convert s d x) (hs : E.P.underlying s = some (.slice el)) (hel : E.P.underlying el = some (.int .i32)) (hd : E.P.underlying d = some .string)
    (hx : opd x = some x') (h : xex E .rStr [e x'] g C.L K) : PureG E C a o K := by
  have hv := he x x' hx
  simp only [xex] at h
  split at h
  · rename_i t heq
    obtain ⟨rs, h1, h2⟩ := Option.bind_eq_some_iff.1 heq
    have hrs : rowsOf C.L (e x') = some rs := by
      unfold rowsSl at h1; split at h1
      · cases h1
      · exact h1
    have hsl : ∃ av l c, a.eval x = .slice av l c := by
      generalize e x' = ex at *
      generalize a.eval x = xv at *
      cases hv <;> first
        | exact ⟨_, _, _, rfl⟩
        | (simp only [rowsSl] at h1; cases h1; done)
        | (simp only [rowsOf] at hrs; cases hrs; done)
    obtain ⟨av, l, c, hxv⟩ := hsl
    rw [hxv] at hv
    have hone : ∀ row ∈ rs, row.length = 1 := fun row hr => by
      obtain ⟨i, hi⟩ := List.getElem?_of_mem hr
      obtain ⟨b, _, hb⟩ := mapO_get' h2 i row hi
      rw [runeOf_some hb]; rfl
    obtain ⟨news, hfl, hlen, hfirst⟩ := src_cells (E := E) sim hv hrs hone
    have hns := runeRows_of h2 hfl
    have hl' : l = rs.length := by
      have : (Builtin.lenOf (.slice av l c)).run E.P C.w = (pure rs.length : Sem Nat).run E.P C.w := by rw [hlen]
      simpa [Builtin.lenOf, Sem.run_pure] using this
    subst hl'
    have hf := hfirst C.w rfl
    refine pure_value (s := convert s d (a.eval x)) (by unfold execOp; rw [ho]) (v := .string ⟨(runesL t).toArray⟩) (w' := C.w) ?_ (psame (.str _) h)
    rw [hxv, run_convert_runes_string _ _ _ _ _ _ _ hs hel hd]
    cases av with
    | none =>
      have : news = [] := by
        have : (Builtin.firstCells 1 rs.length (.slice none rs.length c)).run E.P C.w = .ok #[] C.w := rfl
        rw [this] at hf
        have := (Result.ok.inj hf).1
        simpa using this.symm
      subst this
      have hns0 : t = [] := by simpa using hns.symm
      subst hns0
      rfl
    | some av =>
      have hf' : (loadCells av rs.length).run E.P C.w = .ok (t.map (Value.int .i32)).toArray C.w := by
        rw [← hns]
        have : (Builtin.firstCells 1 rs.length (.slice (some av) rs.length c)) = loadCells av (rs.length * 1) := rfl
        rw [this, Nat.mul_one] at hf
        exact hf
      rw [run_runesToString _ _ _ _ t hf', runes_eq]
  · exact h.elim

theorem good_tas (sim : Sim C) (he : Opds C a e) {s t : TypeId} {d : TypeDesc} {x : Operand} {x' : Opd} (ho : o.op = .typeAssert x s t true) (ht : E.P.underlying t = some d) (hd : ∀ ms, d ≠ .interface ms)
    (hx : opd x = some x') (h : xex E (.tas t) [e x'] g C.L K) : PureG E C a o K := by
  have hv := he x x' hx
  generalize hxe : a.eval x = xv at hv
  generalize e x' = ex at *
  simp only [xex] at h
  split at h
  · rename_i t' v heq
    obtain rfl : ex = .iface t' v := by simpa using heq
    split at h
    · rename_i htt
      subst htt
      cases hv with
      | iface _ _ u hu =>
        refine pure_value (s := Instr.typeAssert (a.eval x) s t' true) (by unfold execOp; rw [ho]) (v := .tuple #[u, .bool true]) (w' := C.w) ?_ (psame (.tup [v, .bool true] [u, .bool true] rfl fun i y hi => ?_) h)
        · rw [hxe]
          unfold Instr.typeAssert
          rw [Sem.run_bind, run_underlying ht]
          simp only [Result.andThen_ok]
          cases d with
          | interface ms => exact absurd rfl (hd ms)
          | _ => simp
        · match i, hi with
          | 0, hi => cases hi; exact hu
          | 1, hi => cases hi; exact .bool true
    · exact h.elim
  · exact h.elim

theorem bytesEq_dec (a b : List UInt8) : ((⟨a.toArray⟩ : ByteArray).toList == (⟨b.toArray⟩ : ByteArray).toList) = decide (a = b) := by
  rw [ByteArray.toList_eq, ByteArray.toList_eq]
  show (a.toArray.toList == b.toArray.toList) = _
  rw [List.toList_toArray, List.toList_toArray]
  by_cases h : a = b
  · subst h; simp
  · rw [decide_eq_false h]; simpa using h
/-- == of structs of plain fields. -/
theorem eqFields_run {P : Program} {D : Nat} {C C' : Ctx} (vs us : List Value) (w : World) : ∀ (fs : List Field) (ks : List Nat) (k : Nat) (xs ys : List IV) (r : Bool), plainK P fs k = some ks →
    (∀ (i : Nat) (x : IV), xs[i]? = some x → ∃ v, vs[k + i]? = some v ∧ VR C x v) → (∀ (i : Nat) (x : IV), ys[i]? = some x → ∃ v, us[k + i]? = some v ∧ VR C' x v) →
    eqCells ks xs ys = some r → (Op.eqFields (D + 1) vs.toArray us.toArray fs).run P w = .ok r w
  | [], ks, k, xs, ys, r, hp, hx, hy, h => by
    simp only [plainK, Option.some.injEq] at hp; subst hp
    unfold eqCells at h
    split at h <;> first | (cases h; done) | skip
    all_goals first
      | (cases h; rfl)
      | (exfalso; simp_all; done)
  | f :: fs, ks, k, xs, ys, r, hp, hx, hy, h => by
    simp only [plainK] at hp
    split at hp
    · rename_i hc
      rw [Bool.and_eq_true, bne_iff_ne, beq_iff_eq] at hc
      obtain ⟨hn, hoff⟩ := hc
      have hpart : ∀ {v : Value} {l : List Value}, (match P.underlying f.type with | some (.int _) | some .string | some .bool => true | _ => false) = true → l[k]? = some v → (part f.type l.toArray f.offset).run P w = .ok v w := fun {v l} ht hl => by
        have h0 : l.toArray[f.offset]? = some v := by rw [hoff]; simpa using hl
        cases hu : P.underlying f.type with
        | none => rw [hu] at ht; cases ht
        | some d => rw [hu] at ht; cases d <;> first | (cases ht; done) | simp [part, isAgg, run_underlying hu, h0]
      have step : ∀ {x y : IV} {xs' ys' : List IV} {ks' : List Nat} {b r' : Bool} {v u : Value}, xs = x :: xs' → ys = y :: ys' → plainK P fs (k + 1) = some ks' → eqCells ks' xs' ys' = some r' → r = (b && r') →
          (match P.underlying f.type with | some (.int _) | some .string | some .bool => true | _ => false) = true → vs[k]? = some v → us[k]? = some u → (Op.equalIn (D + 1) f.type v u).run P w = .ok b w → (Op.eqFields (D + 1) vs.toArray us.toArray (f :: fs)).run P w = .ok r w := by
        intro x y xs' ys' ks' b r' v u e1 e2 e3 e4 e5 e6 e7 e8 e9
        subst e1 e2
        simp only [Op.eqFields, if_pos hn, Sem.run_bind, hpart e6 e7, hpart e6 e8, Result.andThen_ok, e9, Sem.run_ite, Sem.run_pure]
        cases b
        · rw [e5]; rfl
        · rw [e5]
          exact eqFields_run vs us w fs ks' (k + 1) xs' ys' r' e3 (fun i z hz => by
            obtain ⟨v, h1, h2⟩ := hx (i + 1) z (by simpa using hz)
            exact ⟨v, by rw [← h1]; congr 1; omega, h2⟩) (fun i z hz => by
            obtain ⟨v, h1, h2⟩ := hy (i + 1) z (by simpa using hz)
            exact ⟨v, by rw [← h1]; congr 1; omega, h2⟩) e4
      split at hp
      · rename_i kk hu
        rw [Option.map_eq_some_iff] at hp
        obtain ⟨ks', hp, rfl⟩ := hp
        unfold eqCells at h
        split at h <;> first | (cases h; done) | skip
        · rename_i heq; cases heq
        · rename_i ks2 k1 a r1 k2 b r2 heq
          cases heq
          split at h
          · rename_i hkk
            subst hkk
            rw [Option.map_eq_some_iff] at h
            obtain ⟨r', h1, rfl⟩ := h
            obtain ⟨v, h2, h3⟩ := hx 0 _ rfl
            obtain ⟨u, h4, h5⟩ := hy 0 _ rfl
            cases h3; cases h5
            exact step rfl rfl hp h1 rfl (by rw [hu]) h2 h4 (by rw [run_equalIn_int w D _ _ _ _ _ hu]; rfl)
          · cases h
        · rename_i heq; cases heq
        · rename_i heq; cases heq
      · rename_i hu
        rw [Option.map_eq_some_iff] at hp
        obtain ⟨ks', hp, rfl⟩ := hp
        unfold eqCells at h
        split at h <;> first | (cases h; done) | skip
        · rename_i heq; cases heq
        · rename_i heq; cases heq
        · rename_i ks2 a r1 b r2 heq
          cases heq
          rw [Option.map_eq_some_iff] at h
          obtain ⟨r', h1, rfl⟩ := h
          obtain ⟨v, h2, h3⟩ := hx 0 _ rfl
          obtain ⟨u, h4, h5⟩ := hy 0 _ rfl
          cases h3; cases h5
          exact step rfl rfl hp h1 rfl (by rw [hu]) h2 h4 (by rw [run_equalIn_string w D _ _ _ hu, bytesEq_dec])
        · rename_i heq; cases heq
      · rename_i hu
        rw [Option.map_eq_some_iff] at hp
        obtain ⟨ks', hp, rfl⟩ := hp
        unfold eqCells at h
        split at h <;> first | (cases h; done) | skip
        · rename_i heq; cases heq
        · rename_i heq; cases heq
        · rename_i heq; cases heq
        · rename_i ks2 a r1 b r2 heq
          cases heq
          rw [Option.map_eq_some_iff] at h
          obtain ⟨r', h1, rfl⟩ := h
          obtain ⟨v, h2, h3⟩ := hx 0 _ rfl
          obtain ⟨u, h4, h5⟩ := hy 0 _ rfl
          cases h3; cases h5
          exact step rfl rfl hp h1 rfl (by rw [hu]) h2 h4 (by rw [run_equalIn_bool' w D _ _ _ hu]; cases a <;> cases b <;> rfl)
      · cases hp
    · cases hp

theorem good_eqA (sim : Sim C) (he : Opds C a e) {op : BinOp} {t ty : TypeId} {fs : Array Field} {x y : Operand} {x' y' : Opd} {neg : Bool} {ks : List Nat} (ho : o.op = .binOp op t x y ty) (hop : op = if neg then .neq else .eql) (ht : E.P.underlying t = some (.struct fs))
    (hp : plainS E.P t = some ks) (hx : opd x = some x') (hy : opd y = some y') (h : xex E (.eqA neg ks) [e x', e y'] g C.L K) : PureG E C a o K := by
  have hxv := he x x' hx
  have hyv := he y y' hy
  subst hop
  unfold plainS at hp
  split at hp
  · rename_i hcond
    simp only [xex] at h
    split at h
    · rename_i as bs heq
      have h1 : e x' = .agg as := by have := congrArg List.head? heq; simpa using this
      have h2 : e y' = .agg bs := by have := congrArg (fun l => l[1]?) heq; simpa using this
      split at h
      · rename_i r hr
        rw [h1] at hxv; rw [h2] at hyv
        generalize hxe : a.eval x = xv at hxv
        generalize hye : a.eval y = yv at hyv
        cases hxv with
        | agg _ vs hl hv =>
        cases hyv with
        | agg _ us hl' hv' =>
        have hfo : E.P.fieldsOf t = fs := by unfold Program.fieldsOf; rw [ht]
        have hrun : (Op.equalIn 10000 t (.agg vs.toArray) (.agg us.toArray)).run E.P C.w = .ok r C.w := by
          rw [show (10000 : Nat) = 9999 + 1 from rfl, run_equalIn_struct C.w 9999 t _ _ (by rw [hfo]; exact ht) hcond.1]
          refine eqFields_run (D := 9998) (C := C) (C' := C) vs us C.w _ ks 0 as bs r hp (fun i z hi => ?_) (fun i z hi => ?_) hr
          · rw [Nat.zero_add]
            exact ⟨vs.getD i undef, by rw [List.getElem?_eq_getElem (by rw [← hl]; exact lt_of_getL hi)]; simp [List.getD, show i < vs.length by rw [← hl]; exact lt_of_getL hi], hv i z hi⟩
          · rw [Nat.zero_add]
            exact ⟨us.getD i undef, by rw [List.getElem?_eq_getElem (by rw [← hl']; exact lt_of_getL hi)]; simp [List.getD, show i < us.length by rw [← hl']; exact lt_of_getL hi], hv' i z hi⟩
        refine pure_value (s := do eqGuard (if neg then .neq else .eql) t x y (a.eval x) (a.eval y); binOp (if neg then .neq else .eql) t (a.eval x) (a.eval y)) (v := .bool (if neg then !r else r)) (w' := C.w) (by unfold execOp; rw [ho]) ?_ (psame (.bool _) h)
        rw [hxe, hye, Sem.run_bind, run_eqGuard_agg C.w _ _ _ _ _ _ hcond.2]
        simp only [Result.andThen_ok]
        cases neg
        · simp only [Bool.false_eq_true, if_false]
          rw [run_eql_struct, hrun]; rfl
        · simp only [if_true]
          rw [run_neq_struct, hrun]; rfl
      · exact h.elim
    · exact h.elim
  · cases hp

theorem freeze_world {w : World} {b n : Nat} {c : Array Value} {ty : TypeId} {fr : Nat × Nat} (h : w.heap[b]? = some (.cells c ty fr)) : ∃ fr', w.freeze ⟨b, 0, none⟩ n = setW w b (.cells c ty fr') := by
  unfold World.freeze
  split
  · refine ⟨fr, ?_⟩
    unfold setW
    have e1 : w.heap.setIfInBounds b (.cells c ty fr) = w.heap := by
      apply Array.ext_getElem?
      intro j
      rw [Array.getElem?_setIfInBounds]
      split
      · rename_i hj; subst hj; split
        · exact h.symm
        · rename_i hlt; rw [Array.getElem?_eq_none (by omega)] at h; cases h
      · rfl
    rw [e1]
  · obtain ⟨lo, hi⟩ := fr
    refine ⟨if lo == hi then (0, 0 + n) else (min lo 0, max hi (0 + n)), ?_⟩
    unfold setW
    congr 1
    apply Array.ext_getElem?
    intro j
    rw [Array.getElem?_modify, Array.getElem?_setIfInBounds]
    split
    · rename_i hj; subst hj
      have hlt := (Array.getElem?_eq_some_iff.1 h).1
      rw [if_pos hlt, h]; rfl
    · rfl

/-- A block of ours is given up, and written to once more. -/
theorem dead_post {s : Nat} {c c' : Array Value} {ty ty' : TypeId} {fr fr' : Nat × Nat} {k : Blk} {r : IV} {v : Value} (wf : Wf E.g0 C) (sim : Sim C) (hs : C.L[s]? = some k) (ha : k.alive = true) (hc : C.w.heap[(C.φ s).blk]? = some (.cells c ty fr)) (hsz : c'.size = c.size)
    (hv : ∀ C' : Ctx, VR C' r v) (h : K r (C.L.set s .dead)) : Post E C K v (setW C.w (C.φ s).blk (.cells c' ty' fr')) := by
  have hm : C.mine (C.φ s).blk := ⟨s, k, hs, ha, rfl⟩
  have hb := (Array.getElem?_eq_some_iff.1 hc).1
  have hw : (setW C.w (C.φ s).blk (.cells c' ty' fr')).heap.size = C.w.heap.size := by simp [setW]
  have hne : ∀ b, b ≠ (C.φ s).blk → (setW C.w (C.φ s).blk (.cells c' ty' fr')).heap[b]? = C.w.heap[b]? := fun b hb => heap_set_ne hb
  have hk := kill_ext C s
  have kwf := kill_wf (s := s) wf
  have ext : Ext C ⟨setW C.w (C.φ s).blk (.cells c' ty' fr'), C.φ, C.L.set s .dead, C.X⟩ := by
    refine ⟨by rw [hw]; exact Nat.le_refl _, fun b _ hnm => hne b (fun h => hnm (h ▸ hm)), hk.sub, fun _ _ => rfl, hk.bo, hk.len, fun b c0 e0 fr0 hb0 => ?_, rfl, rfl, rfl, rfl⟩
    by_cases hbb : b = (C.φ s).blk
    · subst hbb
      rw [hc] at hb0
      cases hb0
      exact ⟨c', ty', fr', heap_set_eq hb, hsz⟩
    · exact ⟨c0, e0, fr0, by show (setW _ _ _).heap[b]? = _; rw [hne b hbb]; exact hb0, rfl⟩
  refine ⟨r, C.L.set s .dead, C.φ, h, ⟨kwf.inj, kwf.lo, kwf.apart, fun b hx => by show b < (setW _ _ _).heap.size; rw [hw]; exact wf.exlo b hx, by show E.g0 ≤ (setW _ _ _).heap.size; rw [hw]; exact wf.g⟩, ?_, ext, hv _⟩
  intro t l hl
  rw [List.getElem?_set] at hl
  split at hl
  · split at hl
    · cases hl; trivial
    · cases hl
  · rename_i hst
    have h1 := sim t l hl
    by_cases hla : l.alive = true
    · exact h1.mono ext hl (hne _ (fun heq => hst (wf.inj s t k l hs hl ha hla heq.symm)))
    · cases l <;> first | trivial | (exfalso; exact hla rfl)

theorem good_ustr (wf : Wf E.g0 C) (sim : Sim C) (he : Opds C a e) {c : Call} {x y : Operand} {x' y' : Opd} {pt t2 el : TypeId} (ho : o.op = .call c) (hcb : c.callee = .builtin .unsafeString) (hargs : c.args.toList = [x, y]) (hat : c.argTypes.toList = [pt, t2])
    (hpt : E.P.underlying pt = some (.pointer el)) (hce : E.P.cellsOf el = 1) (hx : opd x = some x') (hy : opd y = some y') (h : xex E (.ustr el) [e x', e y'] g C.L K) : Good E C a o K := by
  have hxv := he x x' hx
  have hyv := he y y' hy
  generalize hxe : a.eval x = xv at hxv
  generalize hye : a.eval y = yv at hyv
  have e1 : c.args.map a.eval = #[xv, yv] := by apply Array.ext'; simp [hargs, hxe, hye]
  have e2 : c.argTypes = #[pt, t2] := by apply Array.ext'; simp [hat]
  have key : ∀ {u : Value} {w' : World}, (Builtin.unsafeString_ #[pt, t2] o.type #[xv, yv]).run E.P C.w = .ok u w' → Post E C K u w' → Good E C a o K := fun {u w'} hr hp =>
    .inl ⟨u, w', by
      rw [exec_builtin ho hcb, e1, e2]
      show (do pure (Next.value (← Builtin.unsafeString_ #[pt, t2] o.type #[xv, yv])) : Sem Next).run E.P C.w = _
      rw [Sem.run_bind, hr]; rfl, hp⟩
  generalize e x' = ex at *
  generalize e y' = ey at *
  simp only [xex] at h
  split at h
  · rename_i n heq
    obtain ⟨rfl, rfl⟩ : ex = .raw (.pointer none) ∧ ey = .int .i64 n := by simpa using heq
    obtain ⟨rfl, h⟩ := h
    cases hxv; cases hyv
    exact key (Lib.run_unsafeString_none _ _ _ _ _) (post_same wf sim (.str []) h)
  · rename_i s r off n heq
    obtain ⟨rfl, rfl⟩ : ex = .ptr s r off ∧ ey = .int .i64 n := by simpa using heq
    obtain ⟨rfl, rfl, h⟩ := h
    split at h
    · rename_i ty' sz rows hL
      obtain ⟨rfl, rfl, rfl, hn0, hmax, h⟩ := h
      split at h
      · rename_i bs hbs
        obtain ⟨⟨hsz, c0, e0, fr, hc, _, hle, hcells⟩, hb0, c1, fr1, hc1⟩ := sim s _ hL
        rw [hc] at hc1
        obtain ⟨rfl, rfl, rfl⟩ := by simpa using hc1
        cases hxv with
        | ptr _ _ _ hs =>
        cases hyv
        have hlen := mapO_len hbs
        have ev : (Value.pointer (some ⟨(C.φ s).blk, (C.φ s).base + 0 * (C.φ s).sz + 0, none⟩)) = .pointer (some ⟨(C.φ s).blk, 0, none⟩) := by rw [hb0]; simp
        rw [ev] at key
        rw [hb0] at hle
        have hsh : C.w.shape? (C.φ s).blk = some (e0, c0.size) := by simp [World.shape?, hc]
        have hr := Lib.run_unsafeString_row (P := E.P) (w := C.w) pt t2 o.type e0 hpt hce (C.φ s).blk c0.size hsh bs (fun h0 => by subst h0; simp at hlen; omega) (by omega) (by omega) (fun j b hj => by
          obtain ⟨row, h5, h6⟩ := mapO_get hbs j b hj
          obtain ⟨_, h7⟩ := hcells j row h5
          obtain ⟨u, h8, h9⟩ := h7 0 (.int .u8 b.toNat) (by rw [byteOf_some h6]; rfl)
          cases h9
          rw [hb0, Nat.zero_add, Nat.mul_one, Nat.add_zero] at h8
          have : (⟨(C.φ s).blk, 0, none⟩ : Addr).add j = ⟨(C.φ s).blk, j, none⟩ := by unfold Addr.add; split <;> simp_all
          rw [this]
          simp only [World.cell?, hc]
          exact h8)
        rw [hlen] at hr
        obtain ⟨fr', hfr'⟩ := freeze_world (n := rows.length) hc
        rw [hfr'] at hr
        exact key hr (dead_post wf sim hL rfl hc rfl (fun _ => .str bs) h)
      · exact h.elim
    · exact h.elim
  · exact h.elim

theorem seg_nil (c : Array Value) (k : Nat) : seg c k [] = c := by
  apply Array.ext'
  simp [seg]

theorem good_appT {g : Nat} (hg : Free C.L g) (wf : Wf E.g0 C) (sim : Sim C) (he : Opds C a e) {c : Call} {s x : Operand} {s' x' : Opd} {el : TypeId} {m : Nat} {z : List IV} (ho : o.op = .call c) (hcb : c.callee = .builtin .append)
    (hargs : c.args.toList = [s, x]) (h1 : (c.argTypes[0]?).bind E.P.underlying = some (.slice el)) (h2 : ∃ d, (c.argTypes[1]?).bind E.P.underlying = some d ∧ ∀ k, d ≠ .int k)
    (hs : opd s = some s') (hx : opd x = some x') (hn : sizeT E.P el = some 1) (hm : bytesT E.P el = some m) (hz : zeroCells E.P el = some z) (hm0 : 0 < m) (hzn : z.length = 1)
    (h : xappT el m (e s') (e x') g C.L K) : Good E C a o K := by
  obtain ⟨i, zv, hi, hzv, hz3, hz4⟩ := zeroCells_spec hz
  have hisz : i.size = 1 := by unfold sizeT at hn; rw [hi] at hn; exact Option.some.inj hn
  have hiby : i.bytes = m := by unfold bytesT at hm; rw [hi] at hm; exact Option.some.inj hm
  rw [Option.bind_eq_some_iff] at h1
  obtain ⟨t1, ht1, hu1⟩ := h1
  obtain ⟨d, h2, hd⟩ := h2
  rw [Option.bind_eq_some_iff] at h2
  obtain ⟨t2, ht2, hu2⟩ := h2
  have hu2' : ∃ d, E.P.underlying t2 = some d ∧ ∀ k, d ≠ .int k := ⟨d, hu2, hd⟩
  have hsv := he s s' hs
  have hxv := he x x' hx
  unfold xappT at h
  split at h
  · exact h.elim
  · rename_i rs hrs
    obtain ⟨hrows, h⟩ := h
    obtain ⟨news, hfl, hlen, hfirst⟩ := src_cells (E := E) sim hxv hrs (fun row hr => (hrows row hr).1)
    have hone := hfl.one (fun row hr => (hrows row hr).2)
    have hnl : news.length = rs.length := by rw [hfl.1, Nat.mul_one]
    have hrun : ∀ {v : Value} {w' : World}, (Builtin.append_ #[t1, t2] o.type #[a.eval s, a.eval x]).run E.P C.w = .ok v w' → Post E C K v w' → Good E C a o K := by
      intro v w' hr hp
      refine .inl ⟨v, w', ?_, hp⟩
      rw [exec_builtin ho hcb]
      have e1 : c.args.map a.eval = #[a.eval s, a.eval x] := by
        apply Array.ext'; simp [hargs]
      have e2 : (Builtin.append_ c.argTypes o.type #[a.eval s, a.eval x]) = (Builtin.append_ #[t1, t2] o.type #[a.eval s, a.eval x]) := by
        unfold Builtin.append_
        rw [ht1, ht2]
        rfl
      rw [e1]
      show (do pure (Next.value (← Builtin.append_ c.argTypes o.type #[a.eval s, a.eval x])) : Sem Next).run E.P C.w = _
      rw [e2, Sem.run_bind, hr]
      rfl
    have hcat : ∀ {rows' : List (List IV)} {olds : List Value}, FlatL C olds 1 rows' → FlatL C (olds ++ news) 1 (rows' ++ rs) := by
      intro rows' olds hfo
      refine ⟨by simp [hfo.1, hfl.1], fun i row hi' => ?_⟩
      rcases Nat.lt_or_ge i rows'.length with h5 | h5
      · rw [List.getElem?_append_left h5] at hi'
        obtain ⟨h6, h7⟩ := hfo.2 i row hi'
        refine ⟨h6, fun j y hj => ?_⟩
        obtain ⟨u, h8, h9⟩ := h7 j y hj
        exact ⟨u, by rw [List.getElem?_append_left (lt_of_getL h8)]; exact h8, h9⟩
      · rw [List.getElem?_append_right h5] at hi'
        obtain ⟨h6, h7⟩ := hfl.2 _ row hi'
        refine ⟨h6, fun j y hj => ?_⟩
        obtain ⟨u, h8, h9⟩ := h7 j y hj
        refine ⟨u, ?_, h9⟩
        rw [List.getElem?_append_right (by rw [hfo.1]; omega), ← h8]
        congr 1
        rw [hfo.1]; omega
    have hgrow : ∀ {base : Option Addr} {sCap : Nat} {t : Nat} {olds : List Value} {C1 : Ctx}, a.eval s = .slice base t sCap → Ext C C1 → C1.X = C.X → C1.w = C.w.drew → Wf E.g0 C1 → Sim C1 →
        (Builtin.firstCells 1 t (.slice base t sCap)).run E.P C.w.drew = .ok olds.toArray C.w.drew → sCap < t + rs.length → (t + rs.length) * m ≤ 70368744177664 →
        ∀ {rows' : List (List IV)}, FlatL C olds 1 rows' → rows'.length = t → Free C1.L g → K (.sl g 0 (t + rs.length) (t + rs.length)) (layAt C1.L g (.tcells el 1 (rows' ++ rs))) → Good E C a o K := by
      intro base sCap t olds C1 hsv' hext hX hw wf1 sim1 hold hgr hb rows' hfo hlr hlL hK
      obtain ⟨cap, hcap, hr⟩ := run_append_grow' (P := E.P) (t1 := t1) (t2 := t2) (ty := o.type) (w := C.w) hu1 hu2' hi hzv (base := base) (sLen := t) (sCap := sCap) hlen (by rw [hisz]; exact hold)
        (by rw [hisz]; exact hfirst _ rfl) hgr (by rw [hiby]; exact hm0) (by rw [hiby]; exact hb)
      rw [← hsv'] at hr
      refine hrun hr (Post.of_ext hext hX ?_)
      have hflat := flatL_flat ((hcat hfo).mono hext) (Builtin.zeroCells zv.cells (cap - (t + rs.length)))
      have hsz : ((olds ++ news).toArray ++ Builtin.zeroCells zv.cells (cap - (t + rs.length))).size = cap := by
        have e1 : zv.cells.size = 1 := by rw [← hz3, hzn]
        rw [Array.size_append, size_zeroCells, e1]
        simp [hfo.1, hfl.1, hlr]
        omega
      have hnew := new_postT (E := E) (C := C1) (K := K) (c := (olds ++ news).toArray ++ Builtin.zeroCells zv.cells (cap - (t + rs.length))) (ty := el) hlL wf1 sim1 (frOk_zero _) hflat
        (vr_new_slF (C := C1) hlL (e := el) (k := .tcells el 1 (rows' ++ rs)) (sz := 1) (Nat.le_refl _) hcap (by rw [hsz]; omega)) hK
      rw [hw] at hnew
      exact hnew
    split at h
    · rename_i heq
      rw [heq] at hsv
      generalize hb : a.eval s = sv at hsv
      cases hsv
      by_cases hr : rs = []
      · subst hr
        have h7 : news = [] := List.eq_nil_of_length_eq_zero (by rw [hnl]; rfl)
        subst h7
        have hr' := run_append_none' (P := E.P) (t1 := t1) (t2 := t2) (ty := o.type) (w := C.w) hu1 hu2' hi (base := none) (cap := 0) hlen (by rw [hisz]; exact hfirst _ rfl)
        rw [← hb] at hr'
        exact hrun hr' (post_same wf sim (by rw [hb]; exact .nsl) (heq ▸ h.1 rfl))
      · obtain ⟨h7, h8⟩ := h.2 hr
        have h9 : 0 < rs.length := List.length_pos_iff.2 hr
        exact hgrow (C1 := drewC C) (olds := []) (rows' := []) hb (drew_ext C) rfl rfl (drew_wf wf) (drew_sim sim) rfl (by omega) (by rw [Nat.zero_add]; exact h7) ⟨by simp, fun i row hi => by simp at hi⟩ rfl hg (by simpa [drewC] using h8)
    · rename_i heq
      rw [heq] at hsv
      generalize hb : a.eval s = sv at hsv
      cases hsv
      by_cases hr : rs = []
      · subst hr
        have h7 : news = [] := List.eq_nil_of_length_eq_zero (by rw [hnl]; rfl)
        subst h7
        have hr' := run_append_none' (P := E.P) (t1 := t1) (t2 := t2) (ty := o.type) (w := C.w) hu1 hu2' hi (base := none) (cap := 0) hlen (by rw [hisz]; exact hfirst _ rfl)
        rw [← hb] at hr'
        exact hrun hr' (post_same wf sim (by rw [hb]; exact .raw _ rfl) (heq ▸ h.1 rfl))
      · obtain ⟨h7, h8⟩ := h.2 hr
        have h9 : 0 < rs.length := List.length_pos_iff.2 hr
        exact hgrow (C1 := drewC C) (olds := []) (rows' := []) hb (drew_ext C) rfl rfl (drew_wf wf) (drew_sim sim) rfl (by omega) (by rw [Nat.zero_add]; exact h7) ⟨by simp, fun i row hi => by simp at hi⟩ rfl hg (by simpa [drewC] using h8)
    · rename_i t off len cap heq
      rw [heq] at hsv
      generalize hb : a.eval s = sv at hsv
      obtain ⟨rfl, rfl, h⟩ := h
      cases hsv with
      | sl _ _ _ _ av cap' hts hlc hcc ha =>
      split at h
      · rename_i ty' sz' rows hL
        obtain ⟨rfl, rfl, hrl, h⟩ := h
        obtain ⟨⟨hφ, c0, ty, fr0, hc0, hfr0, hflat⟩, hb0, c1, fr1, hc1⟩ := sim t _ hL
        rw [hc0] at hc1
        obtain ⟨rfl, rfl, rfl⟩ := by simpa using hc1
        subst hrl
        by_cases hcap0 : cap' = 0
        · subst hcap0
          have hl0 : rows = [] := List.eq_nil_of_length_eq_zero (by omega)
          subst hl0
          by_cases hr : rs = []
          · subst hr
            have h7 : news = [] := List.eq_nil_of_length_eq_zero (by rw [hnl]; rfl)
            subst h7
            have hr' := run_append_none' (P := E.P) (t1 := t1) (t2 := t2) (ty := o.type) (w := C.w) hu1 hu2' hi (base := av) (cap := 0) hlen (by rw [hisz]; exact hfirst _ rfl)
            have hb' : a.eval s = .slice av 0 0 := hb
            rw [← hb'] at hr'
            exact hrun hr' (post_same wf sim (r := .sl t 0 0 0) (by rw [hb']; exact .sl t 0 0 0 av 0 hts (Nat.le_refl _) (Nat.le_refl _) (.inl rfl)) (heq ▸ h.1 rfl))
          · obtain ⟨h7, h8⟩ := h.2 hr
            have h9 : 0 < rs.length := List.length_pos_iff.2 hr
            refine hgrow (C1 := killC (drewC C) t) (olds := []) (rows' := []) (t := 0) (sCap := 0) (base := av) hb ((drew_ext C).trans (kill_ext _ t)) rfl rfl (kill_wf (drew_wf wf)) (kill_sim (drew_sim sim)) ?_ (by omega) (by simpa using h7) ⟨by simp, fun i row hi => by simp at hi⟩ rfl (free_set hg hL rfl) ?_
            · cases av with
              | none => rfl
              | some b => show (loadCells b (0 * _)).run E.P _ = _; rw [Nat.zero_mul]; rfl
            · simpa [killC, drewC] using h8
        · obtain ⟨rfl, c1, e1, fr1, hc1', hbig⟩ := ha.resolve_left hcap0
          rw [hc0] at hc1'
          obtain ⟨rfl, rfl, rfl⟩ := by simpa using hc1'
          rw [hφ, hb0] at hbig
          rw [hb0] at hflat
          have hb' : a.eval s = .slice (some ⟨(C.φ t).blk, 0, none⟩) rows.length cap' := by rw [hb, hφ, hb0]
          clear hb
          by_cases hgr : rows.length + rs.length ≤ cap'
          · have hle2 : 0 + rows.length * i.size + news.length ≤ c0.size := by rw [hisz, hnl]; omega
            have hr' := run_append_room' (P := E.P) (t1 := t1) (t2 := t2) (ty := o.type) (w := C.w) hu1 hu2' hi (b := (C.φ t).blk) (k := 0) (sLen := rows.length) (sCap := cap') hlen
              (by rw [hisz]; exact hfirst _ rfl) hgr hc0 hfr0 hle2 hone
            rw [← hb'] at hr'
            by_cases hr : rs = []
            · subst hr
              have h7 : news = [] := List.eq_nil_of_length_eq_zero (by rw [hnl]; rfl)
              subst h7
              rw [seg_nil] at hr'
              obtain ⟨_, hf0⟩ : ∃ fr, setW C.w (C.φ t).blk (.cells c0 ty fr0) = C.w := ⟨fr0, by
                unfold setW
                have e1 : C.w.heap.setIfInBounds (C.φ t).blk (.cells c0 ty fr0) = C.w.heap := by
                  apply Array.ext_getElem?
                  intro j
                  rw [Array.getElem?_setIfInBounds]
                  split
                  · rename_i hj; subst hj; rw [if_pos (Array.getElem?_eq_some_iff.1 hc0).1]; exact hc0.symm
                  · rfl
                rw [e1]⟩
              rw [hf0] at hr'
              refine hrun hr' (post_same wf sim (r := .sl t 0 rows.length rows.length) ?_ (heq ▸ h.1 rfl))
              refine .sl t 0 _ _ _ cap' hts (Nat.le_refl _) hcc (.inr ⟨by simp [hφ, hb0], c0, ty, fr0, hc0, by rw [hφ, hb0]; exact hbig⟩)
            · obtain ⟨h7, hK⟩ := h.2 hr
              have hbig2 : 0 + (rows.length + rs.length) * 1 ≤ c0.size := by omega
              have hfg := flat_grow (base := 0) (sz := 1) hflat hfl hbig2
              simp only [Nat.zero_add, Nat.mul_one] at hfg
              rw [hisz, Nat.zero_add, Nat.mul_one] at hle2 hr'
              refine hrun hr' ⟨.sl g 0 (rows.length + rs.length) (rows.length + rs.length), layAt (C.L.set t .dead) g (Blk.tcells ty 1 (rows ++ rs)), moveφ C t g 0 1, hK,
                move_wf hg hL rfl hc0 (seg_size hle2) wf, move_sim hg hL rfl hc0 (seg_size hle2) wf sim ?_, move_ext hg hL rfl hc0 (seg_size hle2), ?_⟩
              · have hfg' := hfg.mono (move_ext (base := 0) (sz := 1) (k := .tcells ty 1 (rows ++ rs)) hg hL rfl hc0 (seg_size hle2))
                have hh : (moveC C t g 0 1 (.cells (seg c0 rows.length news) ty fr0) (.tcells ty 1 (rows ++ rs))).w.heap[(C.φ t).blk]? = some (.cells (seg c0 rows.length news) ty fr0) := heap_set_eq (Array.getElem?_eq_some_iff.1 hc0).1
                refine ⟨⟨by simp [moveC, moveφ], seg c0 rows.length news, ty, fr0, ?_, by rw [seg_size hle2]; exact hfr0, ?_, ?_⟩, by simp [moveC, moveφ], seg c0 rows.length news, fr0, ?_⟩
                · simp only [moveC, moveφ, if_true]; exact hh
                · simpa [moveC, moveφ] using hfg'.1
                · intro i row hi'
                  refine ⟨(hfg'.2 i row hi').1, fun j y hj => ?_⟩
                  obtain ⟨u, h7, h8⟩ := (hfg'.2 i row hi').2 j y hj
                  exact ⟨u, by simpa [moveC, moveφ] using h7, h8⟩
                · simp only [moveC, moveφ, if_true]; exact hh
              · refine .sl g 0 _ _ _ cap' ⟨_, layAt_get (free_set hg hL rfl), rfl⟩ (Nat.le_refl _) hgr (.inr ⟨by simp [moveφ], seg c0 rows.length news, ty, fr0, ?_, ?_⟩)
                · simp only [moveφ, if_true]; exact heap_set_eq (Array.getElem?_eq_some_iff.1 hc0).1
                · rw [seg_size hle2]
                  simp only [moveφ, if_true]
                  omega
          · have hr : rs ≠ [] := fun h0 => by subst h0; simp at hgr; omega
            obtain ⟨h7, hK⟩ := h.2 hr
            refine hgrow (C1 := killC (drewC C) t) (t := rows.length) (olds := c0.toList.take rows.length) hb' ((drew_ext C).trans (kill_ext _ t)) rfl rfl (kill_wf (drew_wf wf)) (kill_sim (drew_sim sim)) ?_ (by omega) h7 (rows' := rows) ?_ rfl (free_set hg hL rfl) (by simpa [killC, drewC] using hK)
            · have hfs := run_load_slice (P := E.P) (w := C.w.drew) (sz := 1) (n := rows.length) (b := (C.φ t).blk) (k := 0) (f := fun j => c0.getD j undef) (fun j hj => by
                have hj' : j < c0.size := by have := hflat.1; omega
                have : C.w.drew.heap = C.w.heap := rfl
                simp [World.cell?, this, hc0, hj']) rows.length cap'
              rw [hfs]
              congr 1
              apply Array.ext'
              apply List.ext_getElem?
              intro j
              have hsz0 := hflat.1
              rcases Nat.lt_or_ge j rows.length with hj | hj
              · have hj' : j < c0.size := by omega
                simp [hj, hj', List.getElem?_take]
              · simp [List.getElem?_take, Nat.not_lt.2 hj]
            · have hsz0 := hflat.1
              refine ⟨by simp; omega, fun i row hi => ?_⟩
              obtain ⟨h5, h6⟩ := hflat.2 i row hi
              refine ⟨h5, fun j y hj => ?_⟩
              obtain ⟨u, h8, h9⟩ := h6 j y hj
              have hj1 : j = 0 := by have := lt_of_getL hj; omega
              subst hj1
              refine ⟨u, ?_, h9⟩
              have hi' := lt_of_getL hi
              rw [List.getElem?_take, if_pos (by omega)]
              simpa using h8
      · exact good_append hg wf sim he ho hcb hargs (by rw [Option.bind_eq_some_iff]; exact ⟨t1, ht1, hu1⟩) ⟨d, by rw [Option.bind_eq_some_iff]; exact ⟨t2, ht2, hu2⟩, hd⟩ hs hx hn hm hz hm0 (Nat.le_refl 1) hzn h
      · exact h.elim
    · exact h.elim
def frMark (n : Nat) (fr : Nat × Nat) : Nat × Nat := if fr.1 == fr.2 then (n, n + 1) else (min fr.1 n, max fr.2 (n + 1))
theorem frOk_mark {n : Nat} {fr : Nat × Nat} (h : frOk n fr) : frOk n (frMark n fr) := by
  unfold frMark
  split
  · exact .inr (Nat.le_refl _)
  · rename_i hne
    rcases h with rfl | h
    · exact absurd rfl hne
    · exact .inr (by simp only; omega)
theorem mark_run {P : Program} {w : World} {b n : Nat} {c : Array Value} {el : TypeId} {fr : Nat × Nat} (h : w.heap[b]? = some (.cells c el fr)) (off : Nat) : (markStringish ⟨b, off, none⟩).run P w = .ok () (setW w b (.cells c el (frMark c.size fr))) := by
  have hsh : w.shape? b = some (el, c.size) := by unfold World.shape?; rw [h]
  have hfr : w.freeze ⟨b, c.size, none⟩ 1 = setW w b (.cells c el (frMark c.size fr)) := by
    unfold World.freeze setW
    rw [if_neg (by decide)]
    congr 1
    apply Array.ext_getElem?
    intro j
    rw [Array.getElem?_modify, Array.getElem?_setIfInBounds]
    by_cases hj : b = j
    · subst hj
      have hlt := (Array.getElem?_eq_some_iff.1 h).1
      rw [if_pos rfl, if_pos rfl, if_pos hlt, h]
      obtain ⟨lo, hi⟩ := fr
      simp only [Option.map_some, frMark]
    · rw [if_neg hj, if_neg hj]
  simp [markStringish, hsh]
  exact hfr
theorem extF {s : Nat} {k : Blk} {c : Array Value} {el : TypeId} {fr fr' : Nat × Nat} (hs : C.L[s]? = some k) (ha : k.alive = true) (hc : C.w.heap[(C.φ s).blk]? = some (.cells c el fr)) :
    Ext C ⟨setW C.w (C.φ s).blk (.cells c el fr'), C.φ, C.L, C.X⟩ where
  size := by simp [setW]
  frame := fun b _ hm => heap_set_ne (fun h => hm ⟨s, k, hs, ha, h.symm⟩)
  sub := fun b h => .inl h
  slot := fun _ _ => rfl
  bo := fun t ht => ht
  len := Nat.le_refl _
  cap := fun b d e' fr0 h => by
    by_cases hb : b = (C.φ s).blk
    · subst hb
      rw [hc] at h
      obtain ⟨rfl, rfl, rfl⟩ := by simpa using h
      exact ⟨c, el, fr', heap_set_eq (Array.getElem?_eq_some_iff.1 hc).1, rfl⟩
    · exact ⟨d, e', fr0, (heap_set_ne hb).trans h, rfl⟩
  ex := rfl
  os := rfl
  tape := rfl
  output := rfl
theorem good_slId (wf : Wf E.g0 C) (sim : Sim C) (he : Opds C a e) {s el : TypeId} {x : Operand} {x' : Opd} (ho : o.op = .convert s s x) (hs : E.P.underlying s = some (.slice el)) (hel : E.P.underlying el = some (.int .u8))
    (hx : opd x = some x') {t off len cap : Nat} (hex : e x' = .sl t off len cap) (h : slIdX t off len cap C.L K) : Good E C a o K := by
  have hv := he x x' hx
  rw [hex] at hv
  obtain ⟨hc0, h⟩ := h
  generalize hxv : a.eval x = xv at hv
  have hv' := hv
  cases hv with
  | sl _ _ _ _ av cap' hb hl hc ha =>
  obtain ⟨rfl, c, e0, fr, hh, hle⟩ := ha.resolve_left (by omega)
  have key : ∀ k, C.L[t]? = some k → k.alive = true → (∀ (fr' : Nat × Nat), frOk c.size fr' → BlkOk ⟨setW C.w (C.φ t).blk (.cells c e0 fr'), C.φ, C.L, C.X⟩ t k) → frOk c.size fr → K (.sl t off len cap) C.L → Good E C a o K := by
    intro k hk hka hbk hfr hK
    have hext := extF (C := C) (fr' := frMark c.size fr) hk hka hh
    refine good_value (s := convert s s (a.eval x)) (v := .slice (some ⟨(C.φ t).blk, (C.φ t).base + off * (C.φ t).sz, none⟩) len cap') (w' := setW C.w (C.φ t).blk (.cells c e0 (frMark c.size fr))) (by unfold execOp; rw [ho]) ?_ ?_
    · rw [hxv]
      have hm := mark_run (P := E.P) (n := 0) hh ((C.φ t).base + off * (C.φ t).sz)
      simp only [convert, run_underlying hs, run_underlying hel, Sem.run_bind, Result.andThen, beq_self_eq_true, hm]
      rfl
    · refine ⟨.sl t off len cap, C.L, C.φ, hK, ?_, ?_, hext, hv'.mono hext⟩
      · exact { inj := wf.inj, lo := wf.lo, apart := wf.apart, exlo := fun b hx => by have := wf.exlo b hx; simpa [setW] using this, g := by have := wf.g; simpa [setW] using this }
      · intro u l hl
        by_cases hut : u = t
        · subst hut
          rw [hk] at hl; cases hl
          exact hbk _ (frOk_mark hfr)
        · by_cases hla : l.alive = true
          · exact (sim u l hl).mono hext hl (heap_set_ne fun hq => hut (wf.inj u t l k hl hk hla hka hq))
          · cases l <;> first | trivial | (exfalso; exact hla rfl)
  have cells : ∀ sz rows, CellsOk C t sz rows → frOk c.size fr ∧ ∀ fr' : Nat × Nat, frOk c.size fr' → ∀ k, C.L[t]? = some k → k.alive = true → CellsOk ⟨setW C.w (C.φ t).blk (.cells c e0 fr'), C.φ, C.L, C.X⟩ t sz rows := by
    rintro sz rows ⟨h1, c', e', fr0, h2, hfr, h3, h4⟩
    rw [hh] at h2
    obtain ⟨rfl, rfl, rfl⟩ := by simpa using h2
    refine ⟨hfr, fun fr' hfr' k hk hka => ⟨h1, c, e0, fr', heap_set_eq (Array.getElem?_eq_some_iff.1 hh).1, hfr', h3, fun i row hi => ⟨(h4 i row hi).1, fun j y hj => ?_⟩⟩⟩
    obtain ⟨v, h7, h8⟩ := (h4 i row hi).2 j y hj
    exact ⟨v, h7, h8.mono (extF (C := C) hk hka hh)⟩
  split at h
  · rename_i sz rows hL
    obtain ⟨g1, g2⟩ := cells sz rows (sim t _ hL)
    exact key _ hL rfl (fun fr' hfr' => g2 fr' hfr' _ hL rfl) g1 h
  · rename_i ty sz rows hL
    obtain ⟨hk1, hb0, c1, fr1, hk2⟩ := sim t _ hL
    obtain ⟨g1, g2⟩ := cells sz rows hk1
    rw [hh] at hk2
    obtain ⟨rfl, rfl, rfl⟩ := by simpa using hk2
    exact key _ hL rfl (fun fr' hfr' => ⟨g2 fr' hfr' _ hL rfl, hb0, c, fr', heap_set_eq (Array.getElem?_eq_some_iff.1 hh).1⟩) g1 h
  · exact h.elim
theorem good_slIdX {g : Nat} (wf : Wf E.g0 C) (sim : Sim C) (he : Opds C a e) {s el : TypeId} {x : Operand} {x' : Opd} (ho : o.op = .convert s s x) (hs : E.P.underlying s = some (.slice el)) (hel : E.P.underlying el = some (.int .u8))
    (hx : opd x = some x') (h : xex E .slId [e x'] g C.L K) : Good E C a o K := by
  simp only [xex] at h
  split at h
  · rename_i t off len cap heq
    obtain heq : e x' = .sl t off len cap := by simpa using heq
    exact good_slId wf sim he ho hs hel hx heq h
  · exact h.elim
end
end Go.X
end
