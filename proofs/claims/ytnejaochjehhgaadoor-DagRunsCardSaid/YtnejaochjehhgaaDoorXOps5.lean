/- The calculus X, part 11: append, the whole. -/
import Derived.Test.YtnejaochjehhgaaDoorXOps4
set_option linter.unusedVariables false
set_option linter.unusedSimpArgs false
set_option linter.unusedSectionVars false
namespace Go.X
open Go

/-- Writing whole rows. -/
theorem flat_rows {C : Ctx} {c : Array Value} {base sz : Nat} {rows rs : List (List IV)} {news : List Value} (hf : Flat C c base sz rows) (hn : FlatL C news sz rs) {k : Nat} (hk : k + rs.length ≤ rows.length) :
    base + k * sz + news.length ≤ c.size ∧ Flat C (seg c (base + k * sz) news) base sz (splice rows k rs) := by
  have hle : base + k * sz + news.length ≤ c.size := by
    have h1 := hf.1
    have h2 : (k + rs.length) * sz ≤ rows.length * sz := Nat.mul_le_mul_right sz hk
    rw [Nat.add_mul] at h2
    rw [hn.1]; omega
  refine ⟨hle, by rw [seg_size hle, splice_len hk]; exact hf.1, fun i row hi => ?_⟩
  rw [splice_get (by omega)] at hi
  split at hi
  · rename_i h1
    obtain ⟨h2, h3⟩ := hn.2 _ row hi
    refine ⟨h2, fun j x hj => ?_⟩
    obtain ⟨u, h4, h5⟩ := h3 j x hj
    refine ⟨u, ?_, h5⟩
    have hj' : j < sz := by rw [← h2]; exact lt_of_getL hj
    have hlt := row_lt (lt_of_getL hi) hj'
    have e1 : i * sz = k * sz + (i - k) * sz := by rw [← Nat.add_mul]; congr 1; omega
    rw [seg_get hle, if_pos (by rw [hn.1]; omega), ← h4]
    congr 1
    omega
  · rename_i h1
    obtain ⟨h2, h3⟩ := hf.2 i row hi
    refine ⟨h2, fun j x hj => ?_⟩
    obtain ⟨u, h4, h5⟩ := h3 j x hj
    refine ⟨u, ?_, h5⟩
    have hj' : j < sz := by rw [← h2]; exact lt_of_getL hj
    rw [seg_get hle, if_neg, h4]
    rintro ⟨h6, h7⟩
    by_cases h8 : i < k
    · have := row_lt h8 hj'; omega
    · have h9 : (k + rs.length) * sz ≤ i * sz := Nat.mul_le_mul_right sz (by omega)
      rw [Nat.add_mul] at h9
      rw [hn.1] at h7
      omega

/-- Rows beyond those that are known: the block is longer. -/
theorem flat_grow {C : Ctx} {c : Array Value} {base sz : Nat} {rows rs : List (List IV)} {news : List Value} (hf : Flat C c base sz rows) (hn : FlatL C news sz rs)
    (hk : base + (rows.length + rs.length) * sz ≤ c.size) : Flat C (seg c (base + rows.length * sz) news) base sz (rows ++ rs) := by
  have hle : base + rows.length * sz + news.length ≤ c.size := by rw [Nat.add_mul] at hk; rw [hn.1]; omega
  refine ⟨by rw [seg_size hle, List.length_append]; exact hk, fun i row hi => ?_⟩
  rcases Nat.lt_or_ge i rows.length with h1 | h1
  · rw [List.getElem?_append_left h1] at hi
    obtain ⟨h2, h3⟩ := hf.2 i row hi
    refine ⟨h2, fun j x hj => ?_⟩
    obtain ⟨u, h4, h5⟩ := h3 j x hj
    refine ⟨u, ?_, h5⟩
    have hj' : j < sz := by rw [← h2]; exact lt_of_getL hj
    have := row_lt h1 hj'
    rw [seg_get hle, if_neg (by omega), h4]
  · rw [List.getElem?_append_right h1] at hi
    obtain ⟨h2, h3⟩ := hn.2 _ row hi
    refine ⟨h2, fun j x hj => ?_⟩
    obtain ⟨u, h4, h5⟩ := h3 j x hj
    refine ⟨u, ?_, h5⟩
    have hj' : j < sz := by rw [← h2]; exact lt_of_getL hj
    have hlt := row_lt (lt_of_getL hi) hj'
    have e1 : i * sz = rows.length * sz + (i - rows.length) * sz := by rw [← Nat.add_mul]; congr 1; omega
    rw [seg_get hle, if_pos (by rw [hn.1]; omega), ← h4]
    congr 1
    omega

/-- A block is let go: what it held is no more told. -/
def killC (C : Ctx) (s : Nat) : Ctx := ⟨C.w, C.φ, C.L.set s .dead, C.X⟩

theorem kill_mine {C : Ctx} {s b : Nat} (h : (killC C s).mine b) : C.mine b ∧ ∃ t k, t ≠ s ∧ C.L[t]? = some k ∧ k.alive = true ∧ (C.φ t).blk = b := by
  obtain ⟨t, l, hl, ha, rfl⟩ := h
  rcases get_set_cases hl with ⟨h1, h2⟩ | ⟨_, h2, _⟩
  · exact ⟨⟨t, l, h2, ha, rfl⟩, t, l, h1, h2, ha, rfl⟩
  · subst h2; cases ha

theorem kill_ext (C : Ctx) (s : Nat) : Ext C (killC C s) where
  size := Nat.le_refl _
  frame := fun _ _ _ => rfl
  sub := fun b h => .inl (kill_mine h).1
  slot := fun _ _ => rfl
  len := by simp [killC]
  cap := fun b c e fr h => ⟨c, e, fr, h, rfl⟩
  ex := rfl
  os := rfl
  tape := rfl
  output := rfl

theorem kill_wf {g0 : Nat} {C : Ctx} {s : Nat} (wf : Wf g0 C) : Wf g0 (killC C s) where
  inj := fun t u kt ku ht hu at_ au heq => by
    rcases get_set_cases ht with ⟨_, h1⟩ | ⟨_, h1, _⟩
    · rcases get_set_cases hu with ⟨_, h2⟩ | ⟨_, h2, _⟩
      · exact wf.inj t u kt ku h1 h2 at_ au heq
      · subst h2; cases au
    · subst h1; cases at_
  lo := fun b h => wf.lo b (kill_mine h).1
  apart := fun b hx h => wf.apart b hx (kill_mine h).1
  exlo := wf.exlo
  g := wf.g

theorem kill_sim {C : Ctx} {s : Nat} (sim : Sim C) : Sim (killC C s) := by
  intro t l hl
  rcases get_set_cases hl with ⟨_, h2⟩ | ⟨_, h2, _⟩
  · exact (sim t l h2).mono (kill_ext C s) (lt_of_get h2) rfl
  · subst h2; trivial

/-- One answer has been drawn. -/
def drewC (C : Ctx) : Ctx := ⟨C.w.drew, C.φ, C.L, C.X⟩
theorem drew_ext (C : Ctx) : Ext C (drewC C) := ⟨Nat.le_refl _, fun _ _ _ => rfl, fun _ h => .inl h, fun _ _ => rfl, Nat.le_refl _, fun b c e fr h => ⟨c, e, fr, h, rfl⟩, rfl, rfl, rfl, rfl⟩
theorem drew_wf {g0 : Nat} {C : Ctx} (wf : Wf g0 C) : Wf g0 (drewC C) := ⟨wf.inj, wf.lo, wf.apart, wf.exlo, wf.g⟩
theorem drew_sim {C : Ctx} (sim : Sim C) : Sim (drewC C) := fun s k hk => (sim s k hk).mono (drew_ext C) (lt_of_get hk) rfl

theorem Post.of_ext {E : Env} {C C1 : Ctx} {K : IV → List Blk → Prop} {v : Value} {w' : World} (h : Ext C C1) (hx : C1.X = C.X) (hp : Post E C1 K v w') : Post E C K v w' := by
  obtain ⟨r, L', φ', h1, h2, h3, h4, h5⟩ := hp
  rw [hx] at h2 h3 h4 h5
  exact ⟨r, L', φ', h1, h2, h3, h.trans h4, h5⟩

/-- The same block under a new number, the old one let go. -/
def moveφ (C : Ctx) (t base sz : Nat) : Nat → Loc := fun s => if s = C.L.length then ⟨(C.φ t).blk, base, sz⟩ else C.φ s
def moveC (C : Ctx) (t base sz : Nat) (o : Obj) (k : Blk) : Ctx := ⟨setW C.w (C.φ t).blk o, moveφ C t base sz, C.L.set t .dead ++ [k], C.X⟩

theorem move_get {C : Ctx} {t s : Nat} {k l : Blk} (h : (C.L.set t .dead ++ [k])[s]? = some l) (ha : l.alive = true) :
    (s < C.L.length ∧ s ≠ t ∧ C.L[s]? = some l) ∨ (s = C.L.length ∧ l = k) := by
  rcases get_append_cases h with ⟨h1, h2⟩ | ⟨h1, h2⟩
  · rw [List.length_set] at h1
    rcases get_set_cases h2 with ⟨h3, h4⟩ | ⟨_, h4, _⟩
    · exact .inl ⟨h1, h3, h4⟩
    · subst h4; cases ha
  · rw [List.length_set] at h1; exact .inr ⟨h1, h2⟩

section
variable {C : Ctx} {t base sz : Nat} {k k0 : Blk} {c c' : Array Value} {ty : TypeId} (hs : C.L[t]? = some k0) (ha : k0.alive = true) (hc : C.w.heap[(C.φ t).blk]? = some (.cells c ty (0, 0))) (hsz : c'.size = c.size)
include hs ha hc hsz

theorem move_mine {o : Obj} {b : Nat} (h : (moveC C t base sz o k).mine b) : C.mine b := by
  obtain ⟨s, l, hl, hla, rfl⟩ := h
  rcases move_get hl hla with ⟨h1, _, h3⟩ | ⟨h1, _⟩
  · exact ⟨s, l, h3, hla, by simp [moveC, moveφ, Nat.ne_of_lt h1]⟩
  · exact ⟨t, k0, hs, ha, by simp [moveC, moveφ, h1]⟩

theorem move_ext : Ext C (moveC C t base sz (.cells c' ty) k) where
  size := by simp [moveC, setW]
  frame := fun b _ hm => heap_set_ne (fun h => hm ⟨t, k0, hs, ha, h.symm⟩)
  sub := fun b h => .inl (move_mine hs ha hc hsz h)
  slot := fun s h => by simp [moveC, moveφ, Nat.ne_of_lt h]
  len := by simp [moveC]
  cap := fun b d e' fr h => by
    by_cases hb : b = (C.φ t).blk
    · subst hb
      rw [hc] at h
      obtain ⟨rfl, rfl, rfl⟩ := by simpa using h
      exact ⟨c', ty, (0, 0), heap_set_eq (Array.getElem?_eq_some_iff.1 hc).1, hsz⟩
    · exact ⟨d, e', fr, (heap_set_ne hb).trans h, rfl⟩
  ex := rfl
  os := rfl
  tape := rfl
  output := rfl

theorem move_wf {g0 : Nat} {o : Obj} (wf : Wf g0 C) : Wf g0 (moveC C t base sz o k) where
  inj := fun s u ks ku hs' hu as au heq => by
    rcases move_get hs' as with ⟨h1, h2, h3⟩ | ⟨h1, _⟩ <;> rcases move_get hu au with ⟨h4, h5, h6⟩ | ⟨h4, _⟩
    · simp only [moveC, moveφ, Nat.ne_of_lt h1, Nat.ne_of_lt h4, if_false] at heq
      exact wf.inj s u ks ku h3 h6 as au heq
    · simp only [moveC, moveφ, Nat.ne_of_lt h1, h4, if_false, if_true] at heq
      exact absurd (wf.inj s t ks k0 h3 hs as ha heq) h2
    · simp only [moveC, moveφ, Nat.ne_of_lt h4, h1, if_false, if_true] at heq
      exact absurd (wf.inj u t ku k0 h6 hs au ha heq.symm) h5
    · omega
  lo := fun b h => wf.lo b (move_mine hs ha hc hsz h)
  apart := fun b hx h => wf.apart b hx (move_mine hs ha hc hsz h)
  exlo := fun b hx => by have := wf.exlo b hx; simpa [moveC, setW] using this
  g := by have := wf.g; simpa [moveC, setW] using this

theorem move_sim {g0 : Nat} (wf : Wf g0 C) (sim : Sim C) (hk : BlkOk (moveC C t base sz (.cells c' ty) k) C.L.length k) : Sim (moveC C t base sz (.cells c' ty) k) := by
  intro s l hl
  by_cases hla : l.alive = true
  · rcases move_get hl hla with ⟨h1, h2, h3⟩ | ⟨h1, h2⟩
    · exact (sim s l h3).mono (move_ext hs ha hc hsz) h1 (heap_set_ne fun h => h2 (wf.inj s t l k0 h3 hs hla ha h))
    · subst h1; subst h2; exact hk
  · cases l <;> first | trivial | (exfalso; exact hla rfl)
end

section
variable {E : Env} {C : Ctx} {a : Act} {e : Opd → IV} {o : Oper} {K : IV → List Blk → Prop}

theorem flatL_flat {news : List Value} {sz : Nat} {rs : List (List IV)} (h : FlatL C news sz rs) (rest : Array Value) : Flat C (news.toArray ++ rest) 0 sz rs := by
  refine ⟨by simp [h.1], fun i row hi => ⟨(h.2 i row hi).1, fun j x hj => ?_⟩⟩
  obtain ⟨u, h1, h2⟩ := (h.2 i row hi).2 j x hj
  refine ⟨u, ?_, h2⟩
  rw [Nat.zero_add, Array.getElem?_append_left (by simpa using lt_of_getL h1)]
  simpa using h1

theorem FlatL.mono {C' : Ctx} (h : Ext C C') {news : List Value} {sz : Nat} {rs : List (List IV)} (hf : FlatL C news sz rs) : FlatL C' news sz rs :=
  ⟨hf.1, fun i row hi => ⟨(hf.2 i row hi).1, fun j x hj => let ⟨u, h1, h2⟩ := (hf.2 i row hi).2 j x hj; ⟨u, h1, h2.mono h⟩⟩⟩

/-- The model's append, where there is no room. -/
theorem run_append_grow' {P : Program} {t1 t2 ty el : TypeId} {i : TypeInfo} {z : Value} {w : World} (ht : P.underlying t1 = some (.slice el)) (ht2 : ∃ d, P.underlying t2 = some d ∧ ∀ k, d ≠ .int k)
    (hi : P.info? el = some i) (hz : i.zero = some z) {base : Option Addr} {sLen sCap n : Nat} {xv : Value} {olds news : List Value} (hl : Builtin.lenOf xv = pure n)
    (hold : (Builtin.firstCells i.size sLen (.slice base sLen sCap)).run P w.drew = .ok olds.toArray w.drew) (hnew : (Builtin.firstCells i.size n xv).run P w.drew = .ok news.toArray w.drew)
    (hg : sCap < sLen + n) (hb0 : 0 < i.bytes) (hb : (sLen + n) * i.bytes ≤ 70368744177664) :
    ∃ cap, sLen + n ≤ cap ∧ (Builtin.append_ #[t1, t2] ty #[.slice base sLen sCap, xv]).run P w =
      .ok (.slice (some ⟨w.heap.size, 0, none⟩) (sLen + n) cap) (pushW w.drew (.cells ((olds ++ news).toArray ++ Builtin.zeroCells z.cells (cap - (sLen + n))) el)) := by
  have h1 : ¬ (sLen + n ≤ sCap) := by omega
  have h2 : (sLen + n) * 1 ≤ (sLen + n) * i.bytes := Nat.mul_le_mul_left _ hb0
  have h3 : ¬ (9223372036854775807 < ((sLen : Int) + (n : Int))) := by omega
  have h4 : ¬ (281474976710656 < Builtin.nextslicecap (sLen + n) sCap * i.bytes) := by
    have := growslice_fits (need := sLen + n) (old := sCap) (bytes := i.bytes) hg (by omega)
    omega
  obtain ⟨d, hd, hd2⟩ := ht2
  refine ⟨grownCap w (sLen + n) sCap el, grownCap_ge w _ _ _, ?_⟩
  have hu2 : (underlying t2).run P w = .ok d w := by simp [underlying, hd]
  simp only [Builtin.append_]
  simp [run_underlying ht, sizeOf, typeInfo, zeroValue, hi, hz, hl, h1, h3, h4, Question.forced, newRow, grownCap, hu2]
  rw [hold]
  simp only [Result.andThen_ok]
  rw [hnew]
  simp only [Result.andThen_ok]
  have e : olds.toArray ++ news.toArray = (olds ++ news).toArray := by simp
  rw [← Array.append_assoc, e]
  rfl

/-- .. where there is. -/
theorem run_append_room' {P : Program} {t1 t2 ty el : TypeId} {i : TypeInfo} {w : World} (ht : P.underlying t1 = some (.slice el)) (ht2 : ∃ d, P.underlying t2 = some d ∧ ∀ k, d ≠ .int k)
    (hi : P.info? el = some i) {b k sLen sCap n : Nat} {xv : Value} {news : List Value} (hl : Builtin.lenOf xv = pure n) (hnew : (Builtin.firstCells i.size n xv).run P w = .ok news.toArray w)
    (hg : sLen + n ≤ sCap) {c : Array Value} {e : TypeId} (hc : w.heap[b]? = some (.cells c e (0, 0))) (hle : k + sLen * i.size + news.length ≤ c.size) (hone : ∀ v ∈ news, v.oneCell' = true) :
    (Builtin.append_ #[t1, t2] ty #[.slice (some ⟨b, k, none⟩) sLen sCap, xv]).run P w = .ok (.slice (some ⟨b, k, none⟩) (sLen + n) sCap) (setW w b (.cells (seg c (k + sLen * i.size) news) e)) := by
  obtain ⟨d, hd, hd2⟩ := ht2
  have hu2 : (underlying t2).run P w = .ok d w := by simp [underlying, hd]
  have hst := run_storeCells_at P b (k + sLen * i.size) e news 0 c w hc (by simpa using hle) hone
  simp only [Nat.add_zero] at hst
  have hadd : (⟨b, k, none⟩ : Addr).add (sLen * i.size) = ⟨b, k + sLen * i.size, none⟩ := by
    unfold Addr.add; split
    · rename_i h0; rw [h0]; rfl
    · rfl
  simp only [Builtin.append_]
  simp [run_underlying ht, sizeOf, typeInfo, hi, hl, hg, hu2, hnew, hadd, hst]
  rw [← List.append_assoc]
  exact setRow_eq hc

/-- .. nothing, onto nothing. -/
theorem run_append_none' {P : Program} {t1 t2 ty el : TypeId} {i : TypeInfo} {w : World} (ht : P.underlying t1 = some (.slice el)) (ht2 : ∃ d, P.underlying t2 = some d ∧ ∀ k, d ≠ .int k)
    (hi : P.info? el = some i) {base : Option Addr} {cap : Nat} {xv : Value} (hl : Builtin.lenOf xv = pure 0) (hnew : (Builtin.firstCells i.size 0 xv).run P w = .ok #[] w) :
    (Builtin.append_ #[t1, t2] ty #[.slice base 0 cap, xv]).run P w = .ok (.slice base 0 cap) w := by
  obtain ⟨d, hd, hd2⟩ := ht2
  have hu2 : (underlying t2).run P w = .ok d w := by simp [underlying, hd]
  simp only [Builtin.append_]
  cases base <;> simp [run_underlying ht, sizeOf, typeInfo, hi, hl, hu2, hnew, storeCells]

theorem exec_builtin {P : Program} {c : Call} {b : Builtin} (ho : o.op = .call c) (hb : c.callee = .builtin b) (w : World) :
    (execOp a.eval o).run P w = (builtin b c.argTypes o.type (c.args.map fun | .const _ => true | _ => false) (c.args.map a.eval)).run P w := by
  unfold execOp
  rw [ho]
  simp only [resolve, hb]
  rfl

theorem good_append (wf : Wf E.g0 C) (sim : Sim C) (he : Opds C a e) {c : Call} {s x : Operand} {s' x' : Opd} {el : TypeId} {n m : Nat} {z : List IV} (ho : o.op = .call c) (hcb : c.callee = .builtin .append)
    (hargs : c.args.toList = [s, x]) (h1 : (c.argTypes[0]?).bind E.P.underlying = some (.slice el)) (h2 : ∃ d, (c.argTypes[1]?).bind E.P.underlying = some d ∧ ∀ k, d ≠ .int k)
    (hs : opd s = some s') (hx : opd x = some x') (hn : sizeT E.P el = some n) (hm : bytesT E.P el = some m) (hz : zeroCells E.P el = some z) (hm0 : 0 < m) (hn0 : 0 < n) (hzn : z.length = n)
    (h : xappend n m (e s') (e x') C.L K) : Good E C a o K := by
  obtain ⟨i, zv, hi, hzv, hz3, hz4⟩ := zeroCells_spec hz
  have hisz : i.size = n := by unfold sizeT at hn; rw [hi] at hn; exact Option.some.inj hn
  have hiby : i.bytes = m := by unfold bytesT at hm; rw [hi] at hm; exact Option.some.inj hm
  rw [Option.bind_eq_some_iff] at h1
  obtain ⟨t1, ht1, hu1⟩ := h1
  obtain ⟨d, h2, hd⟩ := h2
  rw [Option.bind_eq_some_iff] at h2
  obtain ⟨t2, ht2, hu2⟩ := h2
  have hu2' : ∃ d, E.P.underlying t2 = some d ∧ ∀ k, d ≠ .int k := ⟨d, hu2, hd⟩
  have hsv := he s s' hs
  have hxv := he x x' hx
  unfold xappend at h
  split at h
  · exact h.elim
  · rename_i rs hrs
    obtain ⟨hrows, h⟩ := h
    obtain ⟨news, hfl, hlen, hfirst⟩ := src_cells (E := E) sim hxv hrs (fun row hr => (hrows row hr).1)
    have hone := hfl.one (fun row hr => (hrows row hr).2)
    -- the call
    have hrun : ∀ {v : Value} {w' : World}, (Builtin.append_ #[t1, t2] o.type #[a.eval s, a.eval x]).run E.P C.w = .ok v w' → Post E C K v w' → Good E C a o K := by
      intro v w' hr hp
      refine .inl ⟨v, w', ?_, hp⟩
      rw [exec_builtin ho hcb]
      have e1 : c.args.map a.eval = #[a.eval s, a.eval x] := by
        apply Array.ext'; simp [hargs]
      have e2 : (Builtin.append_ c.argTypes o.type #[a.eval s, a.eval x]) = (Builtin.append_ #[t1, t2] o.type #[a.eval s, a.eval x]) := by
        unfold Builtin.append_
        rw [ht1, ht2]
        rfl
      rw [e1]
      show (do pure (Next.value (← Builtin.append_ c.argTypes o.type #[a.eval s, a.eval x])) : Sem Next).run E.P C.w = _
      rw [e2, Sem.run_bind, hr]
      rfl
    have hgrow : ∀ {base : Option Addr} {sCap : Nat} {t : Nat} {olds : List Value} {C1 : Ctx}, a.eval s = .slice base t sCap → Ext C C1 → C1.X = C.X → C1.w = C.w.drew → Wf E.g0 C1 → Sim C1 →
        (Builtin.firstCells n t (.slice base t sCap)).run E.P C.w.drew = .ok olds.toArray C.w.drew → sCap < t + rs.length → (t + rs.length) * m ≤ 70368744177664 →
        ∀ {rows' : List (List IV)}, FlatL C olds n rows' → rows'.length = t → C1.L.length = C.L.length → K (.sl C.L.length 0 (t + rs.length) (t + rs.length)) (C1.L ++ [.cells n (rows' ++ rs)]) → Good E C a o K := by
      intro base sCap t olds C1 hsv' hext hX hw wf1 sim1 hold hg hb rows' hfo hlr hlL hK
      obtain ⟨cap, hcap, hr⟩ := run_append_grow' (P := E.P) (t1 := t1) (t2 := t2) (ty := o.type) (w := C.w) hu1 hu2' hi hzv (base := base) (sLen := t) (sCap := sCap) hlen (by rw [hisz]; exact hold)
        (by rw [hisz]; exact hfirst _ rfl) hg (by rw [hiby]; exact hm0) (by rw [hiby]; exact hb)
      rw [← hsv'] at hr
      refine hrun hr (Post.of_ext hext hX ?_)
      have hcat : FlatL C (olds ++ news) n (rows' ++ rs) := by
        refine ⟨by simp [hfo.1, hfl.1, Nat.add_mul], fun i row hi' => ?_⟩
        rcases Nat.lt_or_ge i rows'.length with h5 | h5
        · rw [List.getElem?_append_left h5] at hi'
          obtain ⟨h6, h7⟩ := hfo.2 i row hi'
          refine ⟨h6, fun j y hj => ?_⟩
          obtain ⟨u, h8, h9⟩ := h7 j y hj
          exact ⟨u, by rw [List.getElem?_append_left (lt_of_getL h8)]; exact h8, h9⟩
        · rw [List.getElem?_append_right h5] at hi'
          obtain ⟨h6, h7⟩ := hfl.2 _ row hi'
          refine ⟨h6, fun j y hj => ?_⟩
          obtain ⟨u, h8, h9⟩ := h7 j y hj
          refine ⟨u, ?_, h9⟩
          have e1 : i * n = rows'.length * n + (i - rows'.length) * n := by rw [← Nat.add_mul]; congr 1; omega
          rw [List.getElem?_append_right (by rw [hfo.1]; omega), ← h8]
          congr 1
          rw [hfo.1]; omega
      have hflat := flatL_flat (hcat.mono hext) (Builtin.zeroCells zv.cells (cap - (t + rs.length)))
      have hsz : ((olds ++ news).toArray ++ Builtin.zeroCells zv.cells (cap - (t + rs.length))).size = cap * n := by
        have e1 : zv.cells.size = n := by rw [← hz3, hzn]
        have e2 : cap * n = (t + rs.length) * n + (cap - (t + rs.length)) * n := by rw [← Nat.add_mul]; congr 1; omega
        rw [Array.size_append, size_zeroCells, e1, e2]
        simp [hfo.1, hfl.1, hlr, Nat.add_mul]
      have hnew := new_post (E := E) (C := C1) (K := K) (c := (olds ++ news).toArray ++ Builtin.zeroCells zv.cells (cap - (t + rs.length))) (e := el) wf1 sim1 hflat
        (vr_new_sl (C := C1) (e := el) (k := .cells n (rows' ++ rs)) (sz := n) (Nat.le_refl _) hcap (by rw [hsz]; exact Nat.le_refl _)) (by rw [hlL]; exact hK)
      rw [hw] at hnew
      exact hnew
    -- nothing at hand
    have hnil : ∀ {base : Option Addr}, a.eval s = .slice base 0 0 → (rs = [] → VR C (e s') (.slice base 0 0) → K (e s') C.L) →
        (rs ≠ [] → rs.length * m ≤ 70368744177664 ∧ K (.sl C.L.length 0 rs.length rs.length) (C.L ++ [.cells n rs])) → Good E C a o K := by
      intro base hb h5 h6
      by_cases hr : rs = []
      · subst hr
        have h7 : news = [] := List.eq_nil_of_length_eq_zero (by rw [hfl.1]; simp)
        subst h7
        have hr' := run_append_none' (P := E.P) (t1 := t1) (t2 := t2) (ty := o.type) (w := C.w) hu1 hu2' hi (base := base) (cap := 0) hlen (by rw [hisz]; exact hfirst _ rfl)
        rw [← hb] at hr'
        rw [hb] at hsv
        refine hrun hr' (post_same wf sim ?_ (h5 rfl hsv))
        rw [hb]; exact hsv
      · obtain ⟨h7, h8⟩ := h6 hr
        have h9 : 0 < rs.length := List.length_pos_iff.2 hr
        refine hgrow (C1 := drewC C) (olds := []) (rows' := []) hb (drew_ext C) rfl rfl (drew_wf wf) (drew_sim sim) ?_ (by omega) (by rw [Nat.zero_add]; exact h7) ⟨by simp, fun i row hi => by simp at hi⟩ rfl rfl (by simpa [drewC] using h8)
        cases base with
        | none => rfl
        | some b => show (loadCells b (0 * n)).run E.P _ = _; rw [Nat.zero_mul]; rfl
    split at h
    · rename_i heq
      rw [heq] at hsv
      generalize hb : a.eval s = sv at hsv
      cases hsv
      exact hnil hb (fun h5 _ => h.1 h5) h.2
    · rename_i heq
      rw [heq] at hsv
      generalize hb : a.eval s = sv at hsv
      cases hsv
      exact hnil hb (fun h5 _ => h.1 h5) h.2
    · rename_i t off len cap heq
      rw [heq] at hsv
      generalize hb : a.eval s = sv at hsv
      cases hsv with
      | sl _ _ _ _ av cap' hts hlc hcc ha =>
      split at h
      · rename_i sz' rows hL
        obtain ⟨rfl, hroom, h⟩ := h
        obtain ⟨hφ, c0, ty, hc0, hflat⟩ := sim t _ hL
        have hlr : ((rows.drop off).take len).length = len := by rw [List.length_take, List.length_drop]; omega
        by_cases hcap0 : cap' = 0
        · subst hcap0
          have hc0' : cap = 0 := by omega
          have hl0 : len = 0 := by omega
          subst hc0' hl0
          split at h
          · rename_i hle
            have hr : rs = [] := List.eq_nil_of_length_eq_zero (by omega)
            subst hr
            have h7 : news = [] := List.eq_nil_of_length_eq_zero (by rw [hfl.1]; simp)
            subst h7
            have hr' := run_append_none' (P := E.P) (t1 := t1) (t2 := t2) (ty := o.type) (w := C.w) hu1 hu2' hi (base := av) (cap := 0) hlen (by rw [hisz]; exact hfirst _ rfl)
            rw [← hb] at hr'
            refine hrun hr' (post_same wf sim (r := .sl t off 0 0) ?_ ?_)
            · rw [hb]; exact .sl t off 0 0 av 0 hts (Nat.le_refl _) (Nat.le_refl _) (.inl rfl)
            · have e1 : splice rows (off + 0) ([] : List (List IV)) = rows := by simp [splice]
              rw [e1] at h
              have e2 : C.L.set t (.cells sz' rows) = C.L := by
                apply List.ext_getElem?
                intro j
                rw [List.getElem?_set]
                split
                · rename_i h8; subst h8; rw [hL]
                · rfl
              rw [e2] at h
              simpa using h
          · rename_i hle
            obtain ⟨hbd, hK⟩ := h
            refine hgrow (C1 := killC (drewC C) t) (olds := []) (rows' := []) hb ((drew_ext C).trans (kill_ext _ t)) rfl rfl (kill_wf (drew_wf wf)) (kill_sim (drew_sim sim)) ?_ (by omega) hbd ⟨by simp, fun i row hi => by simp at hi⟩ rfl (by simp [killC, drewC]) ?_
            · cases av with
              | none => rfl
              | some b => show (loadCells b (0 * _)).run E.P _ = _; rw [Nat.zero_mul]; rfl
            · simpa [killC, drewC] using hK
        · obtain ⟨rfl, c1, e1, fr1, hc1, hbig⟩ := ha.resolve_left hcap0
          rw [hc0] at hc1
          obtain ⟨rfl, rfl, rfl⟩ := by simpa using hc1
          rw [hφ] at hbig hb
          have hk0 : (C.φ t).base + off * sz' + len * sz' = (C.φ t).base + (off + len) * sz' := by rw [Nat.add_mul]; omega
          split at h
          · -- known room
            rename_i hle
            obtain ⟨hle2, hflat2⟩ := flat_rows (C := C) hflat hfl (k := off + len) (by omega)
            have hr' := run_append_room' (P := E.P) (t1 := t1) (t2 := t2) (ty := o.type) (w := C.w) hu1 hu2' hi (b := (C.φ t).blk) (k := (C.φ t).base + off * sz') (sLen := len) (sCap := cap') hlen
              (by rw [hisz]; exact hfirst _ rfl) (by omega) hc0 (by rw [hisz, hk0]; exact hle2) hone
            rw [hisz, hk0, ← hb] at hr'
            refine hrun hr' (set_post wf sim hL hc0 (seg_size hle2) hflat2 ?_ h)
            refine .sl t off (len + rs.length) cap _ cap' (by simpa [setC] using hts) hle hcc (.inr ⟨by simp [setC, hφ], seg c0 ((C.φ t).base + (off + len) * sz') news, ty, (0, 0), ?_, ?_⟩)
            · exact heap_set_eq (Array.getElem?_eq_some_iff.1 hc0).1
            · rw [seg_size hle2]; show (C.φ t).base + (off + cap') * (C.φ t).sz ≤ _; rw [hφ]; exact hbig
          · rename_i hnle
            obtain ⟨hbd, hK⟩ := h
            have hflatO : Flat C c0 ((C.φ t).base + off * sz') sz' ((rows.drop off).take len) := by
              refine ⟨?_, fun i row hi' => ?_⟩
              · rw [hlr]
                have h5 := hflat.1
                have h6 : (off + len) * sz' ≤ rows.length * sz' := Nat.mul_le_mul_right _ (by omega)
                rw [Nat.add_mul] at h6; omega
              · rw [List.getElem?_take] at hi'
                split at hi'
                · rw [List.getElem?_drop] at hi'
                  obtain ⟨h5, h6⟩ := hflat.2 _ row hi'
                  refine ⟨h5, fun j y hj => ?_⟩
                  obtain ⟨u, h7, h8⟩ := h6 j y hj
                  refine ⟨u, ?_, h8⟩
                  rw [← h7]; congr 1; rw [Nat.add_mul]; omega
                · cases hi'
            by_cases hgr : len + rs.length ≤ cap'
            · -- in place, beyond what is known
              have hbig2 : (C.φ t).base + off * sz' + (((rows.drop off).take len).length + rs.length) * sz' ≤ c0.size := by
                rw [hlr]
                have h6 : (len + rs.length) * sz' ≤ cap' * sz' := Nat.mul_le_mul_right _ hgr
                rw [Nat.add_mul off] at hbig
                omega
              have hfg := flat_grow hflatO hfl hbig2
              rw [hlr, hk0] at hfg
              have hle2 : (C.φ t).base + (off + len) * sz' + news.length ≤ c0.size := by
                rw [hlr, Nat.add_mul] at hbig2
                rw [hfl.1, ← hk0]; omega
              have hr' := run_append_room' (P := E.P) (t1 := t1) (t2 := t2) (ty := o.type) (w := C.w) hu1 hu2' hi (b := (C.φ t).blk) (k := (C.φ t).base + off * sz') (sLen := len) (sCap := cap') hlen
                (by rw [hisz]; exact hfirst _ rfl) hgr hc0 (by rw [hisz, hk0]; exact hle2) hone
              rw [hisz, hk0, ← hb] at hr'
              refine hrun hr' ⟨.sl C.L.length 0 (len + rs.length) (len + rs.length), C.L.set t .dead ++ [Blk.cells sz' ((rows.drop off).take len ++ rs)], moveφ C t ((C.φ t).base + off * sz') sz', hK,
                move_wf hL rfl hc0 (seg_size hle2) wf, move_sim hL rfl hc0 (seg_size hle2) wf sim ?_, move_ext hL rfl hc0 (seg_size hle2), ?_⟩
              · have hfg' := hfg.mono (move_ext (base := (C.φ t).base + off * sz') (sz := sz') (k := .cells sz' ((rows.drop off).take len ++ rs)) hL rfl hc0 (seg_size hle2))
                refine ⟨by simp [moveC, moveφ], seg c0 ((C.φ t).base + (off + len) * sz') news, ty, ?_, ?_, ?_⟩
                · simp only [moveC, moveφ, if_true]; exact heap_set_eq (Array.getElem?_eq_some_iff.1 hc0).1
                · simpa [moveC, moveφ] using hfg'.1
                · intro i row hi'
                  refine ⟨(hfg'.2 i row hi').1, fun j y hj => ?_⟩
                  obtain ⟨u, h7, h8⟩ := (hfg'.2 i row hi').2 j y hj
                  exact ⟨u, by simpa [moveC, moveφ] using h7, h8⟩
              · refine .sl C.L.length 0 _ _ _ cap' (by simp) (Nat.le_refl _) hgr (.inr ⟨by simp [moveφ], seg c0 ((C.φ t).base + (off + len) * sz') news, ty, (0, 0), ?_, ?_⟩)
                · simp only [moveφ, if_true]; exact heap_set_eq (Array.getElem?_eq_some_iff.1 hc0).1
                · rw [seg_size hle2]
                  simp only [moveφ, if_true, Nat.zero_add]
                  rw [Nat.add_mul] at hbig; omega
            · -- a new block
              have hfo : FlatL C ((List.range (len * sz')).map fun k => c0.getD ((C.φ t).base + off * sz' + k) undef) sz' ((rows.drop off).take len) := by
                have := flatL_range (C := C) (sz := sz') (rs := (rows.drop off).take len) (f := fun k => c0.getD ((C.φ t).base + off * sz' + k) undef) (fun i row hi' => (hflatO.2 i row hi').1)
                  (fun i row hi' j y hj => by
                    obtain ⟨u, h7, h8⟩ := (hflatO.2 i row hi').2 j y hj
                    rw [← Nat.add_assoc, getD_of_get h7]; exact h8)
                rw [hlr] at this
                exact this
              refine hgrow (C1 := killC (drewC C) t) (rows' := (rows.drop off).take len) hb ((drew_ext C).trans (kill_ext _ t)) rfl rfl (kill_wf (drew_wf wf)) (kill_sim (drew_sim sim)) ?_ (by omega) hbd hfo hlr (by simp [killC, drewC])
                (by simpa [killC, drewC] using hK)
              refine run_load_slice (fun k hk => ?_) _ _
              have hlt : (C.φ t).base + off * sz' + k < c0.size := by
                have h6 := hflatO.1
                rw [hlr] at h6; omega
              have hcc0 : C.w.drew.heap[(C.φ t).blk]? = some (.cells c0 ty (0, 0)) := hc0
              simp only [World.cell?, hcc0]
              simp [hlt]
      · exact h.elim
    · exact h.elim

end
end Go.X
