/- Parts of the proof: XStep, XLoop, XMerge, XDone, XRace, XSimp. -/
import Derived.Test.YtepkimlnaoaboaaGreatDoorXP7
set_option linter.unusedVariables false
set_option linter.unusedSimpArgs false
set_option linter.unusedSectionVars false
section
/- The calculus X, part 17: rows for going through a run by rewriting. (The constructor rows of XO.sub were printed by a small program.) -/
namespace Go.X
open Go
/-- (A row that is no rfl row: the kernel is not to unfold.) -/
theorem nr {α : Sort _} {a b : α} (h : a = b) : a = b := h
def subO (e : Opd → IV) : Option Opd → Option Opd
  | none => none
  | some x => some (.c (e x))
def subL (e : Opd → IV) : List Opd → List Opd
  | [] => []
  | x :: r => .c (e x) :: subL e r
def subP (e : Opd → IV) : List (Nat × Nat × Opd) → List (Nat × Nat × Opd)
  | [] => []
  | (a, b, x) :: r => (a, b, .c (e x)) :: subP e r
def subQ (e : Opd → IV) : List (Nat × Opd) → List (Nat × Opd)
  | [] => []
  | (a, x) :: r => (a, .c (e x)) :: subQ e r
/-- The operation with its operands' values in it. -/
def XO.sub (e : Opd → IV) : XO → XO
  | .mov v_x => .mov (.c (e v_x))
  | .pick v_c v_a v_b => .pick (.c (e v_c)) (.c (e v_a)) (.c (e v_b))
  | .alloc v_zero => .alloc v_zero
  | .box v_x => .box (.c (e v_x))
  | .build v_zero v_parts => .build v_zero (subP e v_parts)
  | .bslice v_sz v_zero v_len v_parts => .bslice v_sz v_zero v_len (subQ e v_parts)
  | .load1 v_a => .load1 (.c (e v_a))
  | .loadN v_n v_a => .loadN v_n (.c (e v_a))
  | .store v_n v_a v_x => .store v_n (.c (e v_a)) (.c (e v_x))
  | .nilck v_x => .nilck (.c (e v_x))
  | .bin v_op v_x v_y => .bin v_op (.c (e v_x)) (.c (e v_y))
  | .eqB v_neg v_x v_y => .eqB v_neg (.c (e v_x)) (.c (e v_y))
  | .un v_op v_x => .un v_op (.c (e v_x))
  | .cvInt v_k v_x => .cvInt v_k (.c (e v_x))
  | .cvIntStr v_x => .cvIntStr (.c (e v_x))
  | .cvStr v_x => .cvStr (.c (e v_x))
  | .fldA v_off v_x => .fldA v_off (.c (e v_x))
  | .fld v_off v_n v_agg v_x => .fld v_off v_n v_agg (.c (e v_x))
  | .idxS v_n v_x v_i => .idxS v_n (.c (e v_x)) (.c (e v_i))
  | .idxA v_n v_sz v_x v_i => .idxA v_n v_sz (.c (e v_x)) (.c (e v_i))
  | .idx v_x v_i => .idx (.c (e v_x)) (.c (e v_i))
  | .slice v_n v_x v_lo v_hi => .slice v_n (.c (e v_x)) (subO e v_lo) (subO e v_hi)
  | .sliceS v_x v_lo v_hi => .sliceS (.c (e v_x)) (subO e v_lo) (subO e v_hi)
  | .slice0 v_x => .slice0 (.c (e v_x))
  | .mkfn v_f v_first v_cap => .mkfn v_f (subL e v_first) (subL e v_cap)
  | .mkslice v_zero v_bytes v_len v_cap => .mkslice v_zero v_bytes (.c (e v_len)) (.c (e v_cap))
  | .len v_x => .len (.c (e v_x))
  | .lenS v_x => .lenS (.c (e v_x))
  | .append v_sz v_bytes v_s v_x => .append v_sz v_bytes (.c (e v_s)) (.c (e v_x))
  | .max2 v_x v_y => .max2 (.c (e v_x)) (.c (e v_y))
  | .min2 v_x v_y => .min2 (.c (e v_x)) (.c (e v_y))
  | .call v_f v_args => .call (.c (e v_f)) (subL e v_args)
  | .ext v_t v_i => .ext (.c (e v_t)) v_i
  | .pcall v_f v_args => .pcall (.c (e v_f)) (subL e v_args)
  | .isNil v_k v_n v_x => .isNil v_k v_n (.c (e v_x))
  | .rng v_x => .rng (.c (e v_x))
  | .nxt v_x => .nxt (.c (e v_x))
  | .ex v_k v_xs => .ex v_k (subL e v_xs)
def cev : Opd → IV := Opd.ev fun _ => .und
@[go_sem] theorem sub_mov {e : Opd → IV} {v_x : Opd} : XO.sub e (XO.mov v_x) = .mov (.c (e v_x)) := nr rfl
@[go_sem] theorem sub_pick {e : Opd → IV} {v_c v_a v_b : Opd} : XO.sub e (XO.pick v_c v_a v_b) = .pick (.c (e v_c)) (.c (e v_a)) (.c (e v_b)) := nr rfl
@[go_sem] theorem sub_alloc {e : Opd → IV} {v_zero : List IV} : XO.sub e (XO.alloc v_zero) = .alloc v_zero := nr rfl
@[go_sem] theorem sub_box {e : Opd → IV} {v_x : Opd} : XO.sub e (XO.box v_x) = .box (.c (e v_x)) := nr rfl
@[go_sem] theorem sub_build {e : Opd → IV} {v_zero : List IV} {v_parts : List (Nat × Nat × Opd)} : XO.sub e (XO.build v_zero v_parts) = .build v_zero (subP e v_parts) := nr rfl
@[go_sem] theorem sub_bslice {e : Opd → IV} {v_sz : Nat} {v_zero : List IV} {v_len : Nat} {v_parts : List (Nat × Opd)} : XO.sub e (XO.bslice v_sz v_zero v_len v_parts) = .bslice v_sz v_zero v_len (subQ e v_parts) := nr rfl
@[go_sem] theorem sub_load1 {e : Opd → IV} {v_a : Opd} : XO.sub e (XO.load1 v_a) = .load1 (.c (e v_a)) := nr rfl
@[go_sem] theorem sub_loadN {e : Opd → IV} {v_n : Nat} {v_a : Opd} : XO.sub e (XO.loadN v_n v_a) = .loadN v_n (.c (e v_a)) := nr rfl
@[go_sem] theorem sub_store {e : Opd → IV} {v_n : Nat} {v_a v_x : Opd} : XO.sub e (XO.store v_n v_a v_x) = .store v_n (.c (e v_a)) (.c (e v_x)) := nr rfl
@[go_sem] theorem sub_nilck {e : Opd → IV} {v_x : Opd} : XO.sub e (XO.nilck v_x) = .nilck (.c (e v_x)) := nr rfl
@[go_sem] theorem sub_bin {e : Opd → IV} {v_op : BinOp} {v_x v_y : Opd} : XO.sub e (XO.bin v_op v_x v_y) = .bin v_op (.c (e v_x)) (.c (e v_y)) := nr rfl
@[go_sem] theorem sub_eqB {e : Opd → IV} {v_neg : Bool} {v_x v_y : Opd} : XO.sub e (XO.eqB v_neg v_x v_y) = .eqB v_neg (.c (e v_x)) (.c (e v_y)) := nr rfl
@[go_sem] theorem sub_un {e : Opd → IV} {v_op : UnOp} {v_x : Opd} : XO.sub e (XO.un v_op v_x) = .un v_op (.c (e v_x)) := nr rfl
@[go_sem] theorem sub_cvInt {e : Opd → IV} {v_k : IntKind} {v_x : Opd} : XO.sub e (XO.cvInt v_k v_x) = .cvInt v_k (.c (e v_x)) := nr rfl
@[go_sem] theorem sub_cvIntStr {e : Opd → IV} {v_x : Opd} : XO.sub e (XO.cvIntStr v_x) = .cvIntStr (.c (e v_x)) := nr rfl
@[go_sem] theorem sub_cvStr {e : Opd → IV} {v_x : Opd} : XO.sub e (XO.cvStr v_x) = .cvStr (.c (e v_x)) := nr rfl
@[go_sem] theorem sub_fldA {e : Opd → IV} {v_off : Nat} {v_x : Opd} : XO.sub e (XO.fldA v_off v_x) = .fldA v_off (.c (e v_x)) := nr rfl
@[go_sem] theorem sub_fld {e : Opd → IV} {v_off v_n : Nat} {v_agg : Bool} {v_x : Opd} : XO.sub e (XO.fld v_off v_n v_agg v_x) = .fld v_off v_n v_agg (.c (e v_x)) := nr rfl
@[go_sem] theorem sub_idxS {e : Opd → IV} {v_n : Nat} {v_x v_i : Opd} : XO.sub e (XO.idxS v_n v_x v_i) = .idxS v_n (.c (e v_x)) (.c (e v_i)) := nr rfl
@[go_sem] theorem sub_idxA {e : Opd → IV} {v_n v_sz : Nat} {v_x v_i : Opd} : XO.sub e (XO.idxA v_n v_sz v_x v_i) = .idxA v_n v_sz (.c (e v_x)) (.c (e v_i)) := nr rfl
@[go_sem] theorem sub_idx {e : Opd → IV} {v_x v_i : Opd} : XO.sub e (XO.idx v_x v_i) = .idx (.c (e v_x)) (.c (e v_i)) := nr rfl
@[go_sem] theorem sub_slice {e : Opd → IV} {v_n : Nat} {v_x : Opd} {v_lo v_hi : Option Opd} : XO.sub e (XO.slice v_n v_x v_lo v_hi) = .slice v_n (.c (e v_x)) (subO e v_lo) (subO e v_hi) := nr rfl
@[go_sem] theorem sub_sliceS {e : Opd → IV} {v_x : Opd} {v_lo v_hi : Option Opd} : XO.sub e (XO.sliceS v_x v_lo v_hi) = .sliceS (.c (e v_x)) (subO e v_lo) (subO e v_hi) := nr rfl
@[go_sem] theorem sub_slice0 {e : Opd → IV} {v_x : Opd} : XO.sub e (XO.slice0 v_x) = .slice0 (.c (e v_x)) := nr rfl
@[go_sem] theorem sub_mkfn {e : Opd → IV} {v_f : Fn} {v_first v_cap : List Opd} : XO.sub e (XO.mkfn v_f v_first v_cap) = .mkfn v_f (subL e v_first) (subL e v_cap) := nr rfl
@[go_sem] theorem sub_mkslice {e : Opd → IV} {v_zero : List IV} {v_bytes : Nat} {v_len v_cap : Opd} : XO.sub e (XO.mkslice v_zero v_bytes v_len v_cap) = .mkslice v_zero v_bytes (.c (e v_len)) (.c (e v_cap)) := nr rfl
@[go_sem] theorem sub_len {e : Opd → IV} {v_x : Opd} : XO.sub e (XO.len v_x) = .len (.c (e v_x)) := nr rfl
@[go_sem] theorem sub_lenS {e : Opd → IV} {v_x : Opd} : XO.sub e (XO.lenS v_x) = .lenS (.c (e v_x)) := nr rfl
@[go_sem] theorem sub_append {e : Opd → IV} {v_sz v_bytes : Nat} {v_s v_x : Opd} : XO.sub e (XO.append v_sz v_bytes v_s v_x) = .append v_sz v_bytes (.c (e v_s)) (.c (e v_x)) := nr rfl
@[go_sem] theorem sub_max2 {e : Opd → IV} {v_x v_y : Opd} : XO.sub e (XO.max2 v_x v_y) = .max2 (.c (e v_x)) (.c (e v_y)) := nr rfl
@[go_sem] theorem sub_min2 {e : Opd → IV} {v_x v_y : Opd} : XO.sub e (XO.min2 v_x v_y) = .min2 (.c (e v_x)) (.c (e v_y)) := nr rfl
@[go_sem] theorem sub_call {e : Opd → IV} {v_f : Opd} {v_args : List Opd} : XO.sub e (XO.call v_f v_args) = .call (.c (e v_f)) (subL e v_args) := nr rfl
@[go_sem] theorem sub_ext {e : Opd → IV} {v_t : Opd} {v_i : Nat} : XO.sub e (XO.ext v_t v_i) = .ext (.c (e v_t)) v_i := nr rfl
@[go_sem] theorem sub_pcall {e : Opd → IV} {v_f : Opd} {v_args : List Opd} : XO.sub e (XO.pcall v_f v_args) = .pcall (.c (e v_f)) (subL e v_args) := nr rfl
@[go_sem] theorem sub_isNil {e : Opd → IV} {v_k : Nat} {v_n : Bool} {v_x : Opd} : XO.sub e (XO.isNil v_k v_n v_x) = .isNil v_k v_n (.c (e v_x)) := nr rfl
@[go_sem] theorem sub_rng {e : Opd → IV} {v_x : Opd} : XO.sub e (XO.rng v_x) = .rng (.c (e v_x)) := nr rfl
@[go_sem] theorem sub_nxt {e : Opd → IV} {v_x : Opd} : XO.sub e (XO.nxt v_x) = .nxt (.c (e v_x)) := nr rfl
@[go_sem] theorem sub_ex {e : Opd → IV} {v_k : XX} {v_xs : List Opd} : XO.sub e (XO.ex v_k v_xs) = .ex v_k (subL e v_xs) := nr rfl
@[go_sem] theorem cev_c {v : IV} : cev (.c v) = v := nr rfl
theorem subL_map {e : Opd → IV} : ∀ {l : List Opd}, (subL e l).map cev = l.map e
  | [] => rfl
  | x :: r => by simp only [subL, List.map_cons, cev_c, subL_map]
theorem subP_map {e : Opd → IV} : ∀ {l : List (Nat × Nat × Opd)}, (subP e l).map (fun p => (p.1, p.2.1, cev p.2.2)) = l.map fun p => (p.1, p.2.1, e p.2.2)
  | [] => rfl
  | (a, b, x) :: r => by simp only [subP, List.map_cons, cev_c, subP_map]
theorem subQ_map {e : Opd → IV} : ∀ {l : List (Nat × Opd)}, (subQ e l).map (fun p => (p.1, cev p.2)) = l.map fun p => (p.1, e p.2)
  | [] => rfl
  | (a, x) :: r => by simp only [subQ, List.map_cons, cev_c, subQ_map]
theorem subO_map {e : Opd → IV} {x : Option Opd} : (subO e x).map cev = x.map e := by cases x <;> rfl
theorem xop_sub {E : Env} {o : XO} {e : Opd → IV} {L : List Blk} {K : IV → List Blk → Prop} : xop E o e L K = xop E (o.sub e) cev L K := by
  cases o <;> first | rfl | simp only [XO.sub, xop, cev_c, subL_map, subP_map, subQ_map, subO_map]

/-- Behind the first piece. -/
def seqK (E : Env) (b : XC) (K : XE → Rho → List Blk → Prop) : XE → Rho → List Blk → Prop
  | .normal, ρ, L => xrun E b ρ L K
  | e, ρ, L => K e ρ L
section
variable {E : Env} {ρ : Rho} {L : List Blk} {KX : XE → Rho → List Blk → Prop} {KR : Rho → List Blk → Prop} {KV : IV → List Blk → Prop}

/-- (So that a rule of congruence always counts as a step: else simp goes into what comes behind.) -/
def same {α : Sort _} (a : α) : α := a
@[go_sem] theorem same_eq {α : Sort _} {a : α} : same a = a := nr rfl
@[congr] theorem xrun_congr {c : XC} {ρ' : Rho} {L' : List Blk} (h : same ρ = ρ') (hL : same L = L') : xrun E c ρ L KX = xrun E c ρ' L' KX := by rw [← h, ← hL]; rfl
@[congr] theorem xops_congr {l : List XOper} {ρ' : Rho} {L' : List Blk} (h : same ρ = ρ') (hL : same L = L') : xops E l ρ L KR = xops E l ρ' L' KR := by rw [← h, ← hL]; rfl
@[congr] theorem xop_congr {o o' : XO} {e : Opd → IV} {L' : List Blk} (ho : same o = o') (hL : same L = L') : xop E o e L KV = xop E o' e L' KV := by rw [← ho, ← hL]; rfl
@[congr] theorem xcall_congr {f : FuncId} {as as' : List IV} {L' : List Blk} (ho : same as = as') (hL : same L = L') : xcall E f as L KV = xcall E f as' L' KV := by rw [← ho, ← hL]; rfl

@[go_sem ↓] theorem s_skip : xrun E .skip ρ L KX = KX .normal ρ L := nr rfl
@[go_sem ↓] theorem s_ops {l : List XOper} : xrun E (.ops l) ρ L KX = xops E l ρ L fun ρ' L' => KX .normal ρ' L' := nr rfl
@[go_sem ↓] theorem s_draw {l : List XOper} : xrun E (.draw l) ρ L KX = (l.all (fun o => o.op.quiet) = true ∧ xops E l ρ L fun ρ' L' => KX .normal ρ' L') := nr rfl
@[go_sem ↓] theorem s_drawE {l : List XOper} : xrun E (.drawE l) ρ L KX = xops E l ρ L fun ρ' L' => KX .normal ρ' L' := nr rfl
theorem seqK_eq {b : XC} : (fun e ρ' L' => match e with
    | .normal => xrun E b ρ' L' KX
    | e => KX e ρ' L') = seqK E b KX := by
  funext e ρ L; cases e <;> rfl
@[go_sem ↓] theorem s_seq {a b : XC} : xrun E (.seq a b) ρ L KX = xrun E a ρ L (seqK E b KX) := by rw [← seqK_eq]; rfl
@[go_sem ↓] theorem s_seqK1 {b : XC} : seqK E b KX .normal ρ L = xrun E b ρ L KX := nr rfl
@[go_sem ↓] theorem s_seqK2 {b : XC} : seqK E b KX .ret ρ L = KX .ret ρ L := nr rfl
@[go_sem ↓] theorem s_seqK3 {b : XC} {l : Nat} : seqK E b KX (.goto l) ρ L = KX (.goto l) ρ L := nr rfl
@[go_sem ↓] theorem s_seqK4 {b : XC} {id : Nat} : seqK E b KX (.exit id) ρ L = KX (.exit id) ρ L := nr rfl
@[go_sem ↓] theorem s_block {id : Nat} {b : XC} : xrun E (.block id b) ρ L KX = xrun E b ρ L (XE.inBlock id KX) := nr rfl
@[go_sem ↓] theorem s_exit {id : Nat} : xrun E (.exit id) ρ L KX = KX (.exit id) ρ L := nr rfl
@[go_sem ↓] theorem s_label {id : Nat} : xrun E (.label id) ρ L KX = KX .normal ρ L := nr rfl
@[go_sem ↓] theorem s_goto {id : Nat} : xrun E (.goto id) ρ L KX = KX (.goto id) ρ L := nr rfl
@[go_sem ↓] theorem s_ret : xrun E .ret ρ L KX = KX .ret ρ L := nr rfl
@[go_sem ↓] theorem s_condT {c : Opd} {t e : XC} (h : c.ev ρ = .bool true) : xrun E (.cond c t e) ρ L KX = xrun E t ρ L KX := by
  simp [xrun, h]
@[go_sem ↓] theorem s_condF {c : Opd} {t e : XC} (h : c.ev ρ = .bool false) : xrun E (.cond c t e) ρ L KX = xrun E e ρ L KX := by
  simp [xrun, h]
theorem s_cond {c : Opd} {t e : XC} {b : Bool} (h : c.ev ρ = .bool b) (hT : b = true → xrun E t ρ L KX) (hF : b = false → xrun E e ρ L KX) : xrun E (.cond c t e) ρ L KX := by
  simp only [xrun, h]; exact ⟨hT, hF⟩
@[go_sem ↓] theorem s_inB1 {id : Nat} : XE.inBlock id KX .normal ρ L = KX .normal ρ L := nr rfl
@[go_sem ↓] theorem s_inB2 {id : Nat} : XE.inBlock id KX .ret ρ L = KX .ret ρ L := nr rfl
@[go_sem ↓] theorem s_inB3 {id l : Nat} : XE.inBlock id KX (.goto l) ρ L = KX (.goto l) ρ L := nr rfl
@[go_sem ↓] theorem s_inB4 {id : Nat} : XE.inBlock id KX (.exit id) ρ L = KX .normal ρ L := by simp [XE.inBlock]
@[go_sem ↓] theorem s_inB5 {id i : Nat} (h : ¬ i = id) : XE.inBlock id KX (.exit i) ρ L = KX (.exit i) ρ L := by simp [XE.inBlock, h]

@[go_sem ↓] theorem s_nil : xops E [] ρ L KR = KR ρ L := nr rfl
@[go_sem ↓] theorem s_cons {d : Option Nat} {o : XO} {r : List XOper} : xops E (⟨d, o, none⟩ :: r) ρ L KR = xop E (o.sub (Opd.ev ρ)) cev L fun v L' => xops E r (put ρ d v) L' KR := by
  simp only [xops]; exact xop_sub
@[go_sem ↓] theorem s_gdo {d : Option Nat} {o : XO} {r : List XOper} {t : Nat} {w : Bool} (h : ρ t = .bool w) :
    xops E (⟨d, o, some (t, w)⟩ :: r) ρ L KR = xop E (o.sub (Opd.ev ρ)) cev L fun v L' => xops E r (put ρ d v) L' KR := by
  rw [← xop_sub]; simp [xops, h]
@[go_sem ↓] theorem s_gskip {d : Option Nat} {o : XO} {r : List XOper} {t : Nat} {w : Bool} (h : ρ t = .bool (!w)) :
    xops E (⟨d, o, some (t, w)⟩ :: r) ρ L KR = xops E r (put ρ d .und) L KR := by
  cases w <;> simp [xops, h]
@[go_sem ↓] theorem s_gund {d : Option Nat} {o : XO} {r : List XOper} {t : Nat} {w : Bool} (h : ρ t = .und) :
    xops E (⟨d, o, some (t, w)⟩ :: r) ρ L KR = xops E r (put ρ d .und) L KR := by
  simp [xops, h]
@[go_sem] theorem ev_t {n : Nat} : Opd.ev ρ (.t n) = ρ n := nr rfl
@[go_sem] theorem ev_c {v : IV} : Opd.ev ρ (.c v) = v := nr rfl
@[go_sem] theorem ev_f {n : Nat} : Opd.ev ρ (.f n) = .fn (.func n) [] [] := nr rfl
@[go_sem] theorem ev_g {n : Nat} : Opd.ev ρ (.g n) = .raw (.pointer (some ⟨n, 0, none⟩)) := nr rfl
@[go_sem] theorem subL_nil {e : Opd → IV} : subL e [] = [] := nr rfl
@[go_sem] theorem subL_cons {e : Opd → IV} {x : Opd} {r : List Opd} : subL e (x :: r) = .c (e x) :: subL e r := nr rfl
@[go_sem] theorem subP_nil {e : Opd → IV} : subP e [] = [] := nr rfl
@[go_sem] theorem subP_cons {e : Opd → IV} {a b : Nat} {x : Opd} {r : List (Nat × Nat × Opd)} : subP e ((a, b, x) :: r) = (a, b, .c (e x)) :: subP e r := nr rfl
@[go_sem] theorem subQ_nil {e : Opd → IV} : subQ e [] = [] := nr rfl
@[go_sem] theorem subQ_cons {e : Opd → IV} {a : Nat} {x : Opd} {r : List (Nat × Opd)} : subQ e ((a, x) :: r) = (a, .c (e x)) :: subQ e r := nr rfl
@[go_sem] theorem subO_none {e : Opd → IV} : subO e none = none := nr rfl
@[go_sem] theorem subO_some {e : Opd → IV} {x : Opd} : subO e (some x) = some (.c (e x)) := nr rfl
@[go_sem] theorem put_get {d n : Nat} {v : IV} : put ρ (some d) v n = if n = d then v else ρ n := nr rfl
@[go_sem] theorem put_none {v : IV} : put ρ none v = ρ := nr rfl

@[go_sem] theorem o_mov {v : IV} : xop E (.mov (.c v)) cev L KV = KV v L := nr rfl
@[go_sem] theorem o_pickT {a b : IV} : xop E (.pick (.c (.bool true)) (.c a) (.c b)) cev L KV = KV a L := nr rfl
@[go_sem] theorem o_pickF {a b : IV} : xop E (.pick (.c (.bool false)) (.c a) (.c b)) cev L KV = KV b L := nr rfl
@[go_sem] theorem o_alloc {z : List IV} : xop E (.alloc z) cev L KV = KV (.ptr L.length 0 0) (L ++ [.cells z.length [z]]) := nr rfl
@[go_sem] theorem o_box {x : IV} : xop E (.box (.c x)) cev L KV = KV (.ptr L.length 0 0) (L ++ [.cells (cellsOf x).length [cellsOf x]]) := nr rfl
@[go_sem] theorem o_nilck1 {s r o : Nat} : xop E (.nilck (.c (.ptr s r o))) cev L KV = KV (.ptr s r o) L := nr rfl
@[go_sem] theorem o_nilck2 {rows : List (List IV)} {r o : Nat} : xop E (.nilck (.c (.iptr rows r o))) cev L KV = KV (.iptr rows r o) L := nr rfl
@[go_sem] theorem o_nilck3 {f : FuncId} {a b : List IV} : xop E (.nilck (.c (.fn (.func f) a b))) cev L KV = KV (.fn (.func f) a b) L := nr rfl
@[go_sem] theorem o_add {k : IntKind} {a b : Int} : xop E (.bin .add (.c (.int k a)) (.c (.int k b))) cev L KV = KV (.int k (k.wrap (a + b))) L := by simp only [xop, xbin, cev_c, true_and]
@[go_sem] theorem o_sub {k : IntKind} {a b : Int} : xop E (.bin .sub (.c (.int k a)) (.c (.int k b))) cev L KV = KV (.int k (k.wrap (a - b))) L := by simp only [xop, xbin, cev_c, true_and]
@[go_sem] theorem o_mul {k : IntKind} {a b : Int} : xop E (.bin .mul (.c (.int k a)) (.c (.int k b))) cev L KV = KV (.int k (k.wrap (a * b))) L := by simp only [xop, xbin, cev_c, true_and]
@[go_sem] theorem o_quo {k : IntKind} {a b : Int} : xop E (.bin .quo (.c (.int k a)) (.c (.int k b))) cev L KV = (b ≠ 0 ∧ KV (.int k (k.wrap (a.tdiv b))) L) := by simp only [xop, xbin, cev_c, true_and]
@[go_sem] theorem o_rem {k : IntKind} {a b : Int} : xop E (.bin .rem (.c (.int k a)) (.c (.int k b))) cev L KV = (b ≠ 0 ∧ KV (.int k (a.tmod b)) L) := by simp only [xop, xbin, cev_c, true_and]
@[go_sem] theorem o_eql {k : IntKind} {a b : Int} : xop E (.bin .eql (.c (.int k a)) (.c (.int k b))) cev L KV = KV (.bool (decide (a = b))) L := by simp only [xop, xbin, cev_c, true_and]
@[go_sem] theorem o_neq {k : IntKind} {a b : Int} : xop E (.bin .neq (.c (.int k a)) (.c (.int k b))) cev L KV = KV (.bool (!decide (a = b))) L := by simp only [xop, xbin, cev_c, true_and]
@[go_sem] theorem o_lss {k : IntKind} {a b : Int} : xop E (.bin .lss (.c (.int k a)) (.c (.int k b))) cev L KV = KV (.bool (decide (a < b))) L := by simp only [xop, xbin, cev_c, true_and]
@[go_sem] theorem o_leq {k : IntKind} {a b : Int} : xop E (.bin .leq (.c (.int k a)) (.c (.int k b))) cev L KV = KV (.bool (decide (a ≤ b))) L := by simp only [xop, xbin, cev_c, true_and]
@[go_sem] theorem o_gtr {k : IntKind} {a b : Int} : xop E (.bin .gtr (.c (.int k a)) (.c (.int k b))) cev L KV = KV (.bool (decide (b < a))) L := by simp only [xop, xbin, cev_c, true_and]
@[go_sem] theorem o_geq {k : IntKind} {a b : Int} : xop E (.bin .geq (.c (.int k a)) (.c (.int k b))) cev L KV = KV (.bool (decide (b ≤ a))) L := by simp only [xop, xbin, cev_c, true_and]
@[go_sem] theorem o_cat {a b : List UInt8} : xop E (.bin .add (.c (.str a)) (.c (.str b))) cev L KV = (a.length + b.length ≤ 9223372036854775807 ∧ KV (.str (a ++ b)) L) := nr rfl
@[go_sem] theorem o_seql {a b : List UInt8} : xop E (.bin .eql (.c (.str a)) (.c (.str b))) cev L KV = KV (.bool (decide (a = b))) L := nr rfl
@[go_sem] theorem o_sneq {a b : List UInt8} : xop E (.bin .neq (.c (.str a)) (.c (.str b))) cev L KV = KV (.bool (!decide (a = b))) L := nr rfl
@[go_sem] theorem o_slss {a b : List UInt8} : xop E (.bin .lss (.c (.str a)) (.c (.str b))) cev L KV = KV (.bool (Op.bytesLess a b)) L := nr rfl
@[go_sem] theorem o_eqB {n a b : Bool} : xop E (.eqB n (.c (.bool a)) (.c (.bool b))) cev L KV = KV (.bool (if n = true then !decide (a = b) else decide (a = b))) L := nr rfl
@[go_sem] theorem o_not {b : Bool} : xop E (.un .not (.c (.bool b))) cev L KV = KV (.bool (!b)) L := nr rfl
@[go_sem] theorem o_neg {k : IntKind} {n : Int} : xop E (.un .neg (.c (.int k n))) cev L KV = KV (.int k (k.wrap (0 - n))) L := nr rfl
@[go_sem] theorem o_cvInt {k k' : IntKind} {n : Int} : xop E (.cvInt k (.c (.int k' n))) cev L KV = KV (.int k (k.wrap n)) L := nr rfl
@[go_sem] theorem o_cvIntStr {k' : IntKind} {n : Int} : xop E (.cvIntStr (.c (.int k' n))) cev L KV = KV (.str (Utf8.encode n).data.toList) L := nr rfl
@[go_sem] theorem o_cvStr {s : List UInt8} : xop E (.cvStr (.c (.str s))) cev L KV = KV (.str s) L := nr rfl
@[go_sem] theorem o_fldA1 {off s r o : Nat} : xop E (.fldA off (.c (.ptr s r o))) cev L KV = KV (.ptr s r (o + off)) L := nr rfl
@[go_sem] theorem o_fldA2 {off : Nat} {rows : List (List IV)} {r o : Nat} : xop E (.fldA off (.c (.iptr rows r o))) cev L KV = KV (.iptr rows r (o + off)) L := nr rfl
@[go_sem] theorem o_fldT {off n : Nat} {cs : List IV} : xop E (.fld off n true (.c (.agg cs))) cev L KV = (off + n ≤ cs.length ∧ KV (.agg ((cs.drop off).take n)) L) := by simp [xop, cev_c]
@[go_sem] theorem o_fldF {off n : Nat} {cs : List IV} : xop E (.fld off n false (.c (.agg cs))) cev L KV = (off + n ≤ cs.length ∧ off < cs.length ∧ KV (cs.getD off .und) L) := by simp [xop, cev_c]
@[go_sem] theorem o_idxS1 {m : Nat} {rows : List (List IV)} {k : IntKind} {n : Int} : xop E (.idxS m (.c (.isl rows)) (.c (.int k n))) cev L KV = (Rows m rows ∧ 0 ≤ n ∧ n < rows.length ∧ KV (.iptr rows n.toNat 0) L) := nr rfl
@[go_sem] theorem o_idxS2 {m s off len cap : Nat} {k : IntKind} {n : Int} : xop E (.idxS m (.c (.sl s off len cap)) (.c (.int k n))) cev L KV = (szOf L s = some m ∧ 0 ≤ n ∧ n < len ∧ KV (.ptr s (off + n.toNat) 0) L) := nr rfl
@[go_sem] theorem o_idxA1 {m sz s r o : Nat} {k : IntKind} {n : Int} : xop E (.idxA m sz (.c (.ptr s r o)) (.c (.int k n))) cev L KV = (0 ≤ n ∧ n < m ∧ KV (.ptr s r (o + n.toNat * sz)) L) := nr rfl
@[go_sem] theorem o_idxA2 {m sz : Nat} {rows : List (List IV)} {r o : Nat} {k : IntKind} {n : Int} : xop E (.idxA m sz (.c (.iptr rows r o)) (.c (.int k n))) cev L KV = (0 ≤ n ∧ n < m ∧ KV (.iptr rows r (o + n.toNat * sz)) L) := nr rfl
@[go_sem] theorem o_idx {s : List UInt8} {k : IntKind} {n : Int} : xop E (.idx (.c (.str s)) (.c (.int k n))) cev L KV = (0 ≤ n ∧ n < s.length ∧ KV (.int .u8 (s.getD n.toNat 0).toNat) L) := nr rfl
@[go_sem] theorem o_load1i {rows : List (List IV)} {r o : Nat} : xop E (.load1 (.c (.iptr rows r o))) cev L KV = (r < rows.length ∧ o < (rows.getD r []).length ∧ KV ((rows.getD r []).getD o .und) L) := nr rfl
@[go_sem] theorem o_loadNi {n : Nat} {rows : List (List IV)} {r o : Nat} : xop E (.loadN n (.c (.iptr rows r o))) cev L KV = (r < rows.length ∧ o + n ≤ (rows.getD r []).length ∧ KV (.agg (((rows.getD r []).drop o).take n)) L) := nr rfl
@[go_sem] theorem o_load1g {n o : Nat} {cs : List IV} (h : E.gl n = some cs) : xop E (.load1 (.c (.raw (.pointer (some ⟨n, o, none⟩))))) cev L KV = (o < cs.length ∧ KV (cs.getD o .und) L) := by
  simp [xop, cev_c, rowsAt, h]
@[go_sem] theorem o_loadNg {m n o : Nat} {cs : List IV} (h : E.gl n = some cs) : xop E (.loadN m (.c (.raw (.pointer (some ⟨n, o, none⟩))))) cev L KV = (o + m ≤ cs.length ∧ KV (.agg ((cs.drop o).take m)) L) := by
  simp [xop, cev_c, rowsAt, h]
@[go_sem] theorem o_nilck4 {n o : Nat} : xop E (.nilck (.c (.raw (.pointer (some ⟨n, o, none⟩))))) cev L KV = KV (.raw (.pointer (some ⟨n, o, none⟩))) L := nr rfl
@[go_sem] theorem o_fldA3 {off n o : Nat} : xop E (.fldA off (.c (.raw (.pointer (some ⟨n, o, none⟩))))) cev L KV = KV (.raw (.pointer (some ⟨n, o + off, none⟩))) L := nr rfl
@[go_sem] theorem o_idxA3 {m sz b o : Nat} {k : IntKind} {n : Int} : xop E (.idxA m sz (.c (.raw (.pointer (some ⟨b, o, none⟩)))) (.c (.int k n))) cev L KV = (0 ≤ n ∧ n < m ∧ KV (.raw (.pointer (some ⟨b, o + n.toNat * sz, none⟩))) L) := nr rfl
/-- What lies in a block of ours. -/
def blkK (b : Option Blk) (K : Nat → List (List IV) → Prop) : Prop :=
  match b with
  | some (.cells sz rows) => K sz rows
  | some (.tcells _ sz rows) => K sz rows
  | _ => False
/-- .. that is written. -/
def blkS (b : Option Blk) (K : (List (List IV) → Blk) → List (List IV) → Prop) : Prop :=
  match b with
  | some (.cells sz rows) => K (.cells sz) rows
  | some (.tcells ty sz rows) => K (.tcells ty sz) rows
  | _ => False
@[congr] theorem blkS_congr {b b' : Option Blk} {K : (List (List IV) → Blk) → List (List IV) → Prop} (h : same b = b') : blkS b K = blkS b' K := by rw [← h]; rfl
@[go_sem] theorem blkS_cells {sz : Nat} {rows : List (List IV)} {K : (List (List IV) → Blk) → List (List IV) → Prop} : blkS (some (.cells sz rows)) K = K (.cells sz) rows := nr rfl
@[go_sem] theorem blkS_tcells {ty sz : Nat} {rows : List (List IV)} {K : (List (List IV) → Blk) → List (List IV) → Prop} : blkS (some (.tcells ty sz rows)) K = K (.tcells ty sz) rows := nr rfl
@[congr] theorem blkK_congr {b b' : Option Blk} {K : Nat → List (List IV) → Prop} (h : same b = b') : blkK b K = blkK b' K := by rw [← h]; rfl
@[go_sem] theorem blk_cells {sz : Nat} {rows : List (List IV)} {K : Nat → List (List IV) → Prop} : blkK (some (.cells sz rows)) K = K sz rows := nr rfl
@[go_sem] theorem blk_tcells {ty sz : Nat} {rows : List (List IV)} {K : Nat → List (List IV) → Prop} : blkK (some (.tcells ty sz rows)) K = K sz rows := nr rfl
@[go_sem] theorem o_load1p {s r o : Nat} : xop E (.load1 (.c (.ptr s r o))) cev L KV = blkK L[s]? fun _ rows => r < rows.length ∧ o < (rows.getD r []).length ∧ KV ((rows.getD r []).getD o .und) L := by
  simp only [xop, cev_c, rowsAt, blkK, eq_iff_iff]
  split <;> split <;> simp_all
@[go_sem] theorem o_loadNp {n s r o : Nat} : xop E (.loadN n (.c (.ptr s r o))) cev L KV = blkK L[s]? fun _ rows => r < rows.length ∧ o + n ≤ (rows.getD r []).length ∧ KV (.agg (((rows.getD r []).drop o).take n)) L := by
  simp only [xop, cev_c, rowsAt, blkK, eq_iff_iff]
  split <;> split <;> simp_all
@[go_sem] theorem o_storep {n s r o : Nat} {x : IV} : xop E (.store n (.c (.ptr s r o)) (.c x)) cev L KV = blkS L[s]? fun mk rows =>
    r < rows.length ∧ o + n ≤ (rows.getD r []).length ∧ (cellsOf x).length = n ∧ (cellsOf x).all isCell = true ∧
        KV .und (L.set s (mk (rows.set r (splice (rows.getD r []) o (cellsOf x))))) := by
  simp only [xop, cev_c, blkS, eq_iff_iff]
  split <;> split <;> simp_all
/-! The further operations. -/
def optK {α : Type} (o : Option α) (K : α → Prop) : Prop :=
  match o with
  | some x => K x
  | none => False
@[congr] theorem optK_congr {α : Type} {o o' : Option α} {K : α → Prop} (h : same o = o') : optK o K = optK o' K := by rw [← h]; rfl
@[go_sem] theorem optK_some {α : Type} {x : α} {K : α → Prop} : optK (some x) K = K x := nr rfl
@[congr] theorem xex_congr {k : XX} {vs vs' : List IV} {g g' : Nat} {L' : List Blk} (hv : same vs = vs') (hg : same g = g') (hL : same L = L') : xex E k vs g L KV = xex E k vs' g' L' KV := by rw [← hv, ← hg, ← hL]; rfl
@[go_sem] theorem o_ex {k : XX} {xs : List Opd} : xop E (.ex k xs) cev L KV = xex E k (xs.map cev) L.length L KV := nr rfl
@[go_sem] theorem x_panic {g t : Nat} {v : IV} : xex E .panic [.iface t v] g L KV = E.pan (.iface t v) L := nr rfl
@[go_sem] theorem x_mkif {g t : Nat} {v : IV} : xex E (.mkif t) [v] g L KV = KV (.iface t v) L := nr rfl
@[go_sem] theorem x_tas {g t : Nat} {v : IV} : xex E (.tas t) [.iface t v] g L KV = KV (.tup [v, .bool true]) L := by simp only [xex, if_pos]
@[go_sem] theorem x_rStr {g : Nat} {v : IV} : xex E .rStr [v] g L KV = optK ((rowsSl L v).bind (mapO runeOf)) fun s => KV (.str (runesL s)) L := by
  simp only [xex, optK, eq_iff_iff]
  split <;> split <;> simp_all
@[go_sem] theorem x_strB {g ty : Nat} {s : List UInt8} : xex E (.strB ty) [.str s] g L KV = KV (.sl g 0 s.length s.length) (layAt L g (.tcells ty 1 (bytesRows s))) := nr rfl
@[go_sem] theorem x_bStr {g : Nat} {v : IV} : xex E .bStr [v] g L KV = optK ((rowsSl L v).bind (mapO byteOf)) fun s => KV (.str s) L := by
  simp only [xex, optK, eq_iff_iff]
  split <;> split <;> simp_all
theorem x_eqA {g : Nat} {neg : Bool} {ks : List Nat} {a b : List IV} : xex E (.eqA neg ks) [.agg a, .agg b] g L KV = optK (eqCells ks a b) fun t => KV (.bool (if neg then !t else t)) L := by
  simp only [xex, optK, eq_iff_iff]
  split <;> split <;> simp_all
theorem x_eqP {g : Nat} {neg : Bool} {a b : IV} : xex E (.eqP neg) [a, b] g L KV = optK (eqPtr a b) fun t => KV (.bool (if neg then !t else t)) L := by
  simp only [xex, optK, eq_iff_iff]
  split <;> split <;> simp_all
@[go_sem] theorem x_eqA0 {g : Nat} {ks : List Nat} {a b : List IV} : xex E (.eqA false ks) [.agg a, .agg b] g L KV = optK (eqCells ks a b) fun t => KV (.bool t) L := x_eqA
@[go_sem] theorem x_eqA1 {g : Nat} {ks : List Nat} {a b : List IV} : xex E (.eqA true ks) [.agg a, .agg b] g L KV = optK (eqCells ks a b) fun t => KV (.bool (!t)) L := x_eqA
@[go_sem] theorem x_eqP0 {g : Nat} {a b : IV} : xex E (.eqP false) [a, b] g L KV = optK (eqPtr a b) fun t => KV (.bool t) L := x_eqP
@[go_sem] theorem x_eqP1 {g : Nat} {a b : IV} : xex E (.eqP true) [a, b] g L KV = optK (eqPtr a b) fun t => KV (.bool (!t)) L := x_eqP
@[go_sem] theorem eqPtr_nil : eqPtr (.raw (.pointer none)) (.raw (.pointer none)) = some true := nr rfl
@[go_sem] theorem eqPtr_pn {s r o : Nat} : eqPtr (.ptr s r o) (.raw (.pointer none)) = some false := nr rfl
@[go_sem] theorem eqPtr_self {s r o : Nat} : eqPtr (.ptr s r o) (.ptr s r o) = some true := by simp [eqPtr]
@[go_sem] theorem x_allocT {g ty : Nat} {z : List IV} {xs : List IV} : xex E (.allocT ty z) xs g L KV = KV (.ptr g 0 0) (layAt L g (.tcells ty z.length [z])) := nr rfl
@[go_sem] theorem x_slId {g s off len cap : Nat} : xex E .slId [.sl s off len cap] g L KV = slIdX s off len cap L KV := nr rfl
@[go_sem] theorem x_sdataR {g : Nat} : xex E .sdata [.raw (.slice none 0 0)] g L KV = KV (.raw (.pointer none)) L := nr rfl
@[go_sem] theorem o_lenR : xop E (.len (.c (.raw (.slice none 0 0)))) cev L KV = KV (.int .i64 0) L := nr rfl
@[go_sem] theorem x_sdata0 {g : Nat} : xex E .sdata [.nsl] g L KV = KV (.raw (.pointer none)) L := nr rfl
@[go_sem] theorem x_sdata {g s off len cap : Nat} : xex E .sdata [.sl s off len cap] g L KV = (0 < cap ∧ KV (.ptr s off 0) L) := nr rfl
@[go_sem] theorem x_ustr0 {g ty : Nat} {n : Int} : xex E (.ustr ty) [.raw (.pointer none), .int .i64 n] g L KV = (n = 0 ∧ KV (.str []) L) := nr rfl
@[go_sem] theorem x_ustr {g ty s r o : Nat} {n : Int} : xex E (.ustr ty) [.ptr s r o, .int .i64 n] g L KV = xusU ty s r o n L KV := nr rfl
@[go_sem] theorem x_toU {g ty n s r o : Nat} : xex E (.toU ty n) [.ptr s r o] g L KV = xptrU ty n s r o L KV := nr rfl
@[go_sem] theorem x_ofU {g ty n s r o : Nat} : xex E (.ofU ty n) [.ptr s r o] g L KV = xptrU ty n s r o L KV := nr rfl
@[go_sem] theorem x_appT {g ty b : Nat} {s x : IV} : xex E (.appT ty b) [s, x] g L KV = xappT ty b s x g L KV := nr rfl
theorem xptrU_at {ty n s sz : Nat} {row : List IV} (h : L[s]? = some (.tcells ty sz [row])) (hn : n ≤ sz) (h0 : 0 < sz) (hk : KV (.ptr s 0 0) L) : xptrU ty n s 0 0 L KV :=
  ⟨rfl, rfl, by rw [h]; exact ⟨rfl, hn, h0, hk⟩⟩
theorem xusU_at {ty s : Nat} {rows : List (List IV)} {bs : List UInt8} (h : L[s]? = some (.tcells ty 1 rows)) (hb : mapO byteOf rows = some bs) (h0 : rows.length ≠ 0) (h1 : rows.length ≤ 9223372036854775807)
    (hk : KV (.str bs) (L.set s .dead)) : xusU ty s 0 0 rows.length L KV :=
  ⟨rfl, rfl, by rw [h]; simp only [hb]; exact ⟨trivial, trivial, trivial, by omega, by omega, hk⟩⟩
@[go_sem] theorem c_bool {b : Bool} : cellsOf (.bool b) = [.bool b] := nr rfl
@[go_sem] theorem c_int {k : IntKind} {n : Int} : cellsOf (.int k n) = [.int k n] := nr rfl
@[go_sem] theorem c_str {s : List UInt8} : cellsOf (.str s) = [.str s] := nr rfl
@[go_sem] theorem c_ptr {s r o : Nat} : cellsOf (.ptr s r o) = [.ptr s r o] := nr rfl
@[go_sem] theorem c_iptr {rows : List (List IV)} {r o : Nat} : cellsOf (.iptr rows r o) = [.iptr rows r o] := nr rfl
@[go_sem] theorem c_isl {rows : List (List IV)} : cellsOf (.isl rows) = [.isl rows] := nr rfl
@[go_sem] theorem c_sl {s o l c : Nat} : cellsOf (.sl s o l c) = [.sl s o l c] := nr rfl
@[go_sem] theorem c_nsl : cellsOf .nsl = [.nsl] := nr rfl
@[go_sem] theorem c_esl : cellsOf .esl = [.esl] := nr rfl
@[go_sem] theorem c_fn {f : Fn} {a b : List IV} : cellsOf (.fn f a b) = [.fn f a b] := nr rfl
@[go_sem] theorem c_raw {v : Value} : cellsOf (.raw v) = [.raw v] := nr rfl
@[go_sem] theorem c_agg {cs : List IV} : cellsOf (.agg cs) = cs := nr rfl
@[go_sem] theorem i_bool {b : Bool} : isCell (.bool b) = true := nr rfl
@[go_sem] theorem i_int {k : IntKind} {n : Int} : isCell (.int k n) = true := nr rfl
@[go_sem] theorem i_str {s : List UInt8} : isCell (.str s) = true := nr rfl
@[go_sem] theorem i_ptr {s r o : Nat} : isCell (.ptr s r o) = true := nr rfl
@[go_sem] theorem i_iptr {rows : List (List IV)} {r o : Nat} : isCell (.iptr rows r o) = true := nr rfl
@[go_sem] theorem i_isl {rows : List (List IV)} : isCell (.isl rows) = true := nr rfl
@[go_sem] theorem i_sl {s o l c : Nat} : isCell (.sl s o l c) = true := nr rfl
@[go_sem] theorem i_nsl : isCell .nsl = true := nr rfl
@[go_sem] theorem i_esl : isCell .esl = true := nr rfl
@[go_sem] theorem i_fn {f : Fn} {a b : List IV} : isCell (.fn f a b) = true := nr rfl
@[go_sem] theorem splice_def {α : Type} {l xs : List α} {i : Nat} : splice l i xs = l.take i ++ xs ++ l.drop (i + xs.length) := nr rfl
@[go_sem] theorem o_sliceS00 {s : List UInt8} : xop E (.sliceS (.c (.str s)) none none) cev L KV = KV (.str s) L := by simp [xop, cev_c, bnd]
@[go_sem] theorem o_sliceS01 {s : List UInt8} {k : IntKind} {h : Int} : xop E (.sliceS (.c (.str s)) none (some (.c (.int k h)))) cev L KV = (0 ≤ h ∧ h.toNat ≤ s.length ∧ KV (.str (s.take h.toNat)) L) := by simp [xop, cev_c, bnd]
@[go_sem] theorem o_sliceS10 {s : List UInt8} {k : IntKind} {l : Int} : xop E (.sliceS (.c (.str s)) (some (.c (.int k l))) none) cev L KV = (0 ≤ l ∧ l.toNat ≤ s.length ∧ KV (.str (s.drop l.toNat)) L) := by simp [xop, cev_c, bnd]
@[go_sem] theorem o_sliceS11 {s : List UInt8} {k k' : IntKind} {l h : Int} : xop E (.sliceS (.c (.str s)) (some (.c (.int k l))) (some (.c (.int k' h)))) cev L KV =
    (0 ≤ l ∧ 0 ≤ h ∧ l.toNat ≤ h.toNat ∧ h.toNat ≤ s.length ∧ KV (.str ((s.take h.toNat).drop l.toNat)) L) := by simp [xop, cev_c, bnd]
@[go_sem] theorem o_lenS {s : List UInt8} : xop E (.lenS (.c (.str s))) cev L KV = KV (.int .i64 s.length) L := nr rfl
@[go_sem] theorem o_len1 {rows : List (List IV)} : xop E (.len (.c (.isl rows))) cev L KV = KV (.int .i64 rows.length) L := nr rfl
@[go_sem] theorem o_len2 {s off len cap : Nat} : xop E (.len (.c (.sl s off len cap))) cev L KV = KV (.int .i64 len) L := nr rfl
@[go_sem] theorem o_len3 : xop E (.len (.c .nsl)) cev L KV = KV (.int .i64 0) L := nr rfl
@[go_sem] theorem o_len4 : xop E (.len (.c .esl)) cev L KV = KV (.int .i64 0) L := nr rfl
@[go_sem] theorem o_max2 {k k' : IntKind} {a b : Int} : xop E (.max2 (.c (.int k a)) (.c (.int k' b))) cev L KV = KV (.int k (if b > a then b else a)) L := nr rfl
@[go_sem] theorem o_min2 {k k' : IntKind} {a b : Int} : xop E (.min2 (.c (.int k a)) (.c (.int k' b))) cev L KV = KV (.int k (if b < a then b else a)) L := nr rfl
@[go_sem] theorem o_ext {cs : List IV} {i : Nat} : xop E (.ext (.c (.tup cs)) i) cev L KV = (i < cs.length ∧ KV (cs.getD i .und) L) := nr rfl
@[go_sem] theorem o_call {f : FuncId} {a b : List IV} {as : List Opd} : xop E (.call (.c (.fn (.func f) a b)) as) cev L KV = xcall E f (a ++ as.map cev ++ b) L KV := nr rfl
@[go_sem] theorem o_mkfn {f : Fn} {a b : List Opd} : xop E (.mkfn f a b) cev L KV = KV (.fn f (a.map cev) (b.map cev)) L := nr rfl
@[go_sem] theorem o_build {z : List IV} {ps : List (Nat × Nat × Opd)} {cs : List IV} (h : xfill z (ps.map fun p => (p.1, p.2.1, cev p.2.2)) = some cs) : xop E (.build z ps) cev L KV = KV (.agg cs) L := by
  simp only [xop, h]
theorem o_pcall {f : FuncId} {a b : List IV} {as : List Opd} {args' : List IV} {r : IV} (hc : mapO (conv L fuel renNone) (a ++ as.map cev ++ b) = some args') (h : XPure E f args' r) (hr : ∀ m, conv [] fuel (renShift m) r = some r) (hk : KV r L) :
    xop E (.pcall (.c (.fn (.func f) a b)) as) cev L KV := ⟨false, args', r, hc, h, (fun h => by cases h), hr, hk⟩
@[go_sem] theorem o_yld {s : Nat} {as : List Opd} : xop E (.call (.c (.yld s)) as) cev L KV = E.yl s (as.map cev) L KV := nr rfl
@[go_sem] theorem o_nil0 {n : Bool} : xop E (.isNil 0 n (.c .nsl)) cev L KV = KV (.bool (if n then !true else true)) L := nr rfl
@[go_sem] theorem o_nil1 {n : Bool} {rows : List (List IV)} : xop E (.isNil 0 n (.c (.isl rows))) cev L KV = (KV (.bool (if n then !false else false)) L ∧ (rows = [] → KV (.bool (if n then !true else true)) L)) := nr rfl
@[go_sem] theorem o_nil2 {n : Bool} {s o l c : Nat} : xop E (.isNil 0 n (.c (.sl s o l c))) cev L KV = (KV (.bool (if n then !false else false)) L ∧ (c = 0 → KV (.bool (if n then !true else true)) L)) := nr rfl
@[go_sem] theorem o_nil3 {n : Bool} : xop E (.isNil 0 n (.c .esl)) cev L KV = (KV (.bool (if n then !true else true)) L ∧ KV (.bool (if n then !false else false)) L) := nr rfl
@[go_sem] theorem o_nil4 {n : Bool} {t : TypeId} {v : IV} : xop E (.isNil 1 n (.c (.iface t v))) cev L KV = KV (.bool (if n then !false else false)) L := nr rfl
@[go_sem] theorem o_nil5 {n : Bool} : xop E (.isNil 1 n (.c (.raw .nilIface))) cev L KV = KV (.bool (if n then !true else true)) L := nr rfl
@[go_sem] theorem o_nil6 {n : Bool} {f : Fn} {a b : List IV} : xop E (.isNil 2 n (.c (.fn f a b))) cev L KV = KV (.bool (if n then !false else false)) L := nr rfl
@[go_sem] theorem o_rng {x : List UInt8} : xop E (.rng (.c (.str x))) cev L KV = KV (.ptr L.length 0 0) (L ++ [.siter x 0]) := nr rfl
@[go_sem] theorem o_slice0a {rows : List (List IV)} : xop E (.slice0 (.c (.isl rows))) cev L KV = KV .esl L := nr rfl
@[go_sem] theorem o_slice0b {s off len cap : Nat} : xop E (.slice0 (.c (.sl s off len cap))) cev L KV = KV .esl L := nr rfl
@[go_sem] theorem o_isl00 {m : Nat} {rows : List (List IV)} : xop E (.slice m (.c (.isl rows)) none none) cev L KV = (Rows m rows ∧ KV (.isl rows) L) := by simp [xop, cev_c, bnd]
@[go_sem] theorem o_isl01 {m : Nat} {rows : List (List IV)} {k : IntKind} {h : Int} : xop E (.slice m (.c (.isl rows)) none (some (.c (.int k h)))) cev L KV = (Rows m rows ∧ 0 ≤ h ∧ h.toNat ≤ rows.length ∧ KV (.isl (rows.take h.toNat)) L) := by simp [xop, cev_c, bnd]
@[go_sem] theorem o_isl10 {m : Nat} {rows : List (List IV)} {k : IntKind} {l : Int} : xop E (.slice m (.c (.isl rows)) (some (.c (.int k l))) none) cev L KV = (Rows m rows ∧ 0 ≤ l ∧ l.toNat ≤ rows.length ∧ KV (.isl (rows.drop l.toNat)) L) := by simp [xop, cev_c, bnd]
@[go_sem] theorem o_isl11 {m : Nat} {rows : List (List IV)} {k k' : IntKind} {l h : Int} : xop E (.slice m (.c (.isl rows)) (some (.c (.int k l))) (some (.c (.int k' h)))) cev L KV =
    (Rows m rows ∧ 0 ≤ l ∧ 0 ≤ h ∧ l.toNat ≤ h.toNat ∧ h.toNat ≤ rows.length ∧ KV (.isl ((rows.take h.toNat).drop l.toNat)) L) := by simp [xop, cev_c, bnd]
end
end Go.X
end
section
/- The calculus X, part 18: loops, and small laws of numbers. -/
namespace Go.X
open Go
section
variable {E : Env} {ρ : Rho} {L : List Blk} {KX : XE → Rho → List Blk → Prop}

/-- Behind a round. -/
def loopK (I : Nat → Rho → List Blk → Prop) (n : Nat) (K : XE → Rho → List Blk → Prop) : XE → Rho → List Blk → Prop
  | .normal, ρ, L => ∃ m, m < n ∧ I m ρ L
  | e, ρ, L => K e ρ L
@[go_sem ↓] theorem s_loopK1 {I : Nat → Rho → List Blk → Prop} {n : Nat} : loopK I n KX .normal ρ L = ∃ m, m < n ∧ I m ρ L := nr rfl
@[go_sem ↓] theorem s_loopK2 {I : Nat → Rho → List Blk → Prop} {n : Nat} : loopK I n KX .ret ρ L = KX .ret ρ L := nr rfl
@[go_sem ↓] theorem s_loopK3 {I : Nat → Rho → List Blk → Prop} {n l : Nat} : loopK I n KX (.goto l) ρ L = KX (.goto l) ρ L := nr rfl
@[go_sem ↓] theorem s_loopK4 {I : Nat → Rho → List Blk → Prop} {n l : Nat} : loopK I n KX (.exit l) ρ L = KX (.exit l) ρ L := nr rfl
theorem s_loop {b : XC} (I : Nat → Rho → List Blk → Prop) {n : Nat} (h0 : I n ρ L) (hs : ∀ n ρ L, I n ρ L → xrun E b ρ L (loopK I n KX)) : xrun E (.loop b) ρ L KX := by
  refine xloop_inv I h0 fun n ρ L h => xrun_mono _ (fun e ρ' L' h => ?_) (hs n ρ L h)
  cases e <;> exact h

/-- Behind a run that may go to label l again. -/
def gotoK (l : Nat) (I : Nat → Rho → List Blk → Prop) (n : Nat) (K : XE → Rho → List Blk → Prop) : XE → Rho → List Blk → Prop
  | .goto l', ρ, L => (l' = l → ∃ m, m < n ∧ I m ρ L) ∧ (l' ≠ l → K (.goto l') ρ L)
  | e, ρ, L => K e ρ L
@[go_sem ↓] theorem s_gotoK1 {I : Nat → Rho → List Blk → Prop} {n l : Nat} : gotoK l I n KX (.goto l) ρ L = ∃ m, m < n ∧ I m ρ L := by simp [gotoK]
@[go_sem ↓] theorem s_gotoK2 {I : Nat → Rho → List Blk → Prop} {n l : Nat} : gotoK l I n KX .ret ρ L = KX .ret ρ L := nr rfl
@[go_sem ↓] theorem s_gotoK3 {I : Nat → Rho → List Blk → Prop} {n l : Nat} : gotoK l I n KX .normal ρ L = KX .normal ρ L := nr rfl
@[go_sem ↓] theorem s_gotoK4 {I : Nat → Rho → List Blk → Prop} {n l i : Nat} : gotoK l I n KX (.exit i) ρ L = KX (.exit i) ρ L := nr rfl
theorem wrap64 {n : Int} (h1 : -9223372036854775808 ≤ n) (h2 : n ≤ 9223372036854775807) : IntKind.wrap .i64 n = n := by
  simp only [IntKind.wrap]; simp [IntKind.bits, IntKind.signed]; omega
end
end Go.X
end
section
/- The calculus X, part 19: 'a and b', 'a or b' as one truth. -/
namespace Go.X
open Go
def memN : List Nat → Nat → Bool
  | [], _ => false
  | a :: r, n => if n = a then true else memN r n
/-- Numbers of which nothing is known any more. -/
def hav (W : List Nat) (vs : Rho) (ρ : Rho) : Rho := fun n => if memN W n = true then vs n else ρ n
/-- The operations that hang on slot g. -/
def cutK (g : Nat) (w : Bool) : List XOper → List Nat → List XOper → (List XOper → List Nat → List XOper → Prop) → Prop
  | [], S, acc, F => F acc S []
  | o :: r, S, acc, F => match o with
    | ⟨some d, op, some (t, w')⟩ => if memN S t = true ∧ (t = g → w' = w) ∧ d ≠ g then cutK g w r (d :: S) (acc ++ [⟨some d, op, some (t, w')⟩]) F else F acc S (⟨some d, op, some (t, w')⟩ :: r)
    | o => F acc S (o :: r)
def act (ρ : Rho) (S : List Nat) : Option (Nat × Bool) → Prop
  | none => True
  | some (t, w) => ρ t = .bool w ∧ memN S t = false
section
variable {E : Env} {ρ : Rho} {L : List Blk} {KX : XE → Rho → List Blk → Prop} {KR : Rho → List Blk → Prop}

theorem hav_agree {W : List Nat} {ρ ρ' : Rho} (h : ∀ n, memN W n = false → ρ' n = ρ n) : ρ' = hav W ρ' ρ := by
  funext n
  simp only [hav]
  by_cases hn : memN W n = true
  · rw [if_pos hn]
  · rw [if_neg hn]; exact h n (by simpa using hn)

/-- Operations write what they say. -/
theorem xops_frame : ∀ (G : List XOper) (S : List Nat) (ρ ρ0 : Rho) (L : List Blk) (K : Rho → List Blk → Prop), (∀ o ∈ G, ∀ d, o.dst = some d → memN S d = true) → (∀ n, memN S n = false → ρ n = ρ0 n) → xops E G ρ L K →
    xops E G ρ L fun ρ' L' => K ρ' L' ∧ ∀ n, memN S n = false → ρ' n = ρ0 n
  | [], S, ρ, ρ0, L, K, _, h0, h => ⟨h, h0⟩
  | o :: r, S, ρ, ρ0, L, K, hS, h0, h => by
    have hput : ∀ v, ∀ n, memN S n = false → put ρ o.dst v n = ρ0 n := by
      intro v n hn
      cases hd : o.dst with
      | none => exact h0 n hn
      | some d =>
        simp only [put]
        rw [if_neg (fun hnd => ?_)]
        · exact h0 n hn
        · subst hnd; rw [hS o List.mem_cons_self n hd] at hn; cases hn
    have hr := fun v L' h => xops_frame r S (put ρ o.dst v) ρ0 L' K (fun o' ho' => hS o' (List.mem_cons_of_mem _ ho')) (hput v) h
    simp only [xops] at h ⊢
    split at h
    · exact xop_mono (fun v L' h => hr v L' h) h
    · rename_i t want hg
      split at h
      · exact ⟨fun hw => xop_mono (fun v L' h => hr v L' h) (h.1 hw), fun hw => hr _ _ (h.2 hw)⟩
      · exact hr _ _ h
      · exact h.elim

theorem xops_append : ∀ {a b : List XOper} {ρ : Rho} {L : List Blk} {K : Rho → List Blk → Prop}, xops E a ρ L (fun ρ' L' => xops E b ρ' L' K) → xops E (a ++ b) ρ L K
  | [], _, _, _, _, h => h
  | o :: a, b, ρ, L, K, h => by
    simp only [List.cons_append, xops] at *
    split at h
    · exact xop_mono (fun v L' h => xops_append h) h
    · split at h
      · exact ⟨fun hw => xop_mono (fun v L' h => xops_append h) (h.1 hw), fun hw => xops_append (h.2 hw)⟩
      · exact xops_append h
      · exact h.elim

/-- What hangs on g: where it is not so, nothing is done. -/
def Hang (g : Nat) (w : Bool) : List Nat → List XOper → Prop
  | _, [] => True
  | S, o :: r => ∃ d t w', o.dst = some d ∧ o.guard = some (t, w') ∧ memN S t = true ∧ (t = g → w' = w) ∧ d ≠ g ∧ Hang g w (d :: S) r

theorem hang_skip {g : Nat} {w : Bool} : ∀ {G : List XOper} {S : List Nat} {ρ : Rho} {L : List Blk} {K : Rho → List Blk → Prop}, Hang g w S G → ρ g = .bool (!w) → (∀ t, memN S t = true → t = g ∨ ρ t = .und) →
    (∀ ρ', (∀ n, (∀ o ∈ G, o.dst ≠ some n) → ρ' n = ρ n) → ρ' g = .bool (!w) → K ρ' L) → xops E G ρ L K
  | [], _, _, _, _, _, hg, _, hk => hk _ (fun _ _ => rfl) hg
  | o :: r, S, ρ, L, K, hG, hg, hS, hk => by
    obtain ⟨d, t, w', h1, h2, h3, h4, h5, h6⟩ := hG
    have hg' : put ρ o.dst .und g = .bool (!w) := by rw [h1]; simp only [put]; rw [if_neg (Ne.symm h5)]; exact hg
    have hrest : xops E r (put ρ o.dst .und) L K := by
      refine hang_skip h6 hg' (fun t ht => ?_) (fun ρ' hρ' h7 => hk ρ' (fun n hn => ?_) h7)
      · rw [h1]
        simp only [put]
        by_cases htd : t = d
        · rw [if_pos htd]; exact Or.inr rfl
        · rw [if_neg htd]
          simp only [memN, if_neg htd] at ht
          exact hS t ht
      · rw [hρ' n (fun o' ho' => hn o' (List.mem_cons_of_mem _ ho')), h1]
        simp only [put]
        rw [if_neg]
        intro hnd; subst hnd
        exact hn o List.mem_cons_self h1
    simp only [xops, h2]
    rcases hS t h3 with rfl | ht
    · rw [hg]
      rw [h4 rfl]
      exact ⟨fun h => absurd h (by cases w <;> simp), fun _ => hrest⟩
    · rw [ht]; exact hrest

theorem cutK_elim {g : Nat} {w : Bool} : ∀ {l : List XOper} {S : List Nat} {acc : List XOper} {F : List XOper → List Nat → List XOper → Prop}, cutK g w l S acc F →
    ∃ G S' rest, l = G ++ rest ∧ F (acc ++ G) S' rest ∧ Hang g w S G ∧ (∀ n, memN S n = true → memN S' n = true) ∧ (∀ o ∈ G, ∀ d, o.dst = some d → memN S' d = true)
  | [], S, acc, F, h => ⟨[], S, [], rfl, by simpa [cutK] using h, trivial, fun _ h => h, by simp⟩
  | o :: r, S, acc, F, h => by
    unfold cutK at h
    split at h
    · rename_i d op t w'
      split at h
      · rename_i hc
        obtain ⟨G, S', rest, h1, h2, h3, h4, h5⟩ := cutK_elim h
        refine ⟨⟨some d, op, some (t, w')⟩ :: G, S', rest, by rw [h1]; rfl, by simpa using h2, ⟨d, t, w', rfl, rfl, hc.1, hc.2.1, hc.2.2, h3⟩, fun n hn => h4 n ?_, ?_⟩
        · simp only [memN]; split
          · rfl
          · exact hn
        · intro o ho d' hd'
          rcases List.mem_cons.1 ho with rfl | ho
          · simp only [Option.some.injEq] at hd'; subst hd'
            exact h4 _ (by simp [memN])
          · exact h5 o ho d' hd'
      · exact ⟨[], S, _, rfl, by simpa using h, trivial, fun _ h => h, by simp⟩
    · exact ⟨[], S, _, rfl, by simpa using h, trivial, fun _ h => h, by simp⟩

/-- a and b, a or b: 'w': and. -/
def mergeV (w b y : Bool) : Bool := if w then b && y else b || y
def mergePick (g : Nat) (w : Bool) (v : Nat) : XO := if w then .pick (.t g) (.t v) (.c (.bool false)) else .pick (.t g) (.c (.bool true)) (.t v)

theorem s_merge {l : List XOper} {b w : Bool} (g : Nat) (hg : ρ g = .bool b)
    (h : cutK g w l [g] [] fun G S rest => ∃ r v gd rest' y, rest = ⟨some r, mergePick g w v, gd⟩ :: rest' ∧ act ρ S gd ∧ (b = w → xops E G ρ L fun ρ' L' => L' = L ∧ ρ' v = .bool y) ∧
      ∀ vs, xops E rest' (put (hav S vs ρ) (some r) (.bool (mergeV w b y))) L KR) : xops E l ρ L KR := by
  obtain ⟨G, S, rest, rfl, ⟨r, v, gd, rest', y, rfl, hact, h1, h2⟩, hH, hS, hd⟩ := cutK_elim h
  simp only [List.nil_append] at *
  have hgS : memN S g = true := hS g (by simp [memN])
  -- behind the group
  have key : ∀ ρ', (∀ n, memN S n = false → ρ' n = ρ n) → ρ' g = .bool b → (b = w → ρ' v = .bool y) → xops E (⟨some r, mergePick g w v, gd⟩ :: rest') ρ' L KR := by
    intro ρ' ha hg' hv
    have hρ : ρ' = hav S ρ' ρ := hav_agree ha
    have hfin : xop E (mergePick g w v) (Opd.ev ρ') L fun x L' => xops E rest' (put ρ' (some r) x) L' KR := by
      have h3 : xops E rest' (put ρ' (some r) (.bool (mergeV w b y))) L KR := by
        have := h2 ρ'
        rwa [← hρ] at this
      cases w
      · simp only [mergePick, Bool.false_eq_true, if_false, xop, Opd.ev, hg']
        cases b
        · simp only [Bool.false_eq_true, if_false]; rw [hv rfl]; simpa [mergeV] using h3
        · simpa [mergeV] using h3
      · simp only [mergePick, if_true, xop, Opd.ev, hg']
        cases b
        · simpa [mergeV] using h3
        · simp only [if_true]; rw [hv rfl]; simpa [mergeV] using h3
    cases gd with
    | none => exact hfin
    | some p =>
      obtain ⟨t, w'⟩ := p
      have h4 : ρ' t = .bool w' := (ha t hact.2).trans hact.1
      simp only [xops, h4]
      exact ⟨fun _ => hfin, fun h => absurd rfl h⟩
  refine xops_append ?_
  by_cases hb : b = w
  · have h3 := xops_frame G S ρ ρ L _ hd (fun _ _ => rfl) (h1 hb)
    have h4 : xops E G ρ L fun ρ' L' => ∀ n, (∀ o ∈ G, o.dst ≠ some n) → ρ' n = ρ n := by
      have h5 := xops_frame (E := E) G (G.filterMap (·.dst)) ρ ρ L _ (fun o ho d hd => ?_) (fun _ _ => rfl) (h1 hb)
      · refine xops_mono (fun ρ' L' h => ?_) h5
        intro n hn
        refine h.2 n ?_
        have : ∀ l : List Nat, n ∉ l → memN l n = false := by
          intro l
          induction l with
          | nil => intro _; rfl
          | cons x l ih => intro hx; simp only [List.mem_cons, not_or] at hx; simp only [memN, if_neg hx.1]; exact ih hx.2
        apply this
        intro hmem
        rw [List.mem_filterMap] at hmem
        obtain ⟨o, ho, h6⟩ := hmem
        exact hn o ho h6
      · have : ∀ l : List Nat, d ∈ l → memN l d = true := by
          intro l
          induction l with
          | nil => intro h; cases h
          | cons x l ih =>
            intro hx
            simp only [memN]
            split
            · rfl
            · rename_i hne
              rcases List.mem_cons.1 hx with h | h
              · exact absurd h hne
              · exact ih h
        exact this _ (List.mem_filterMap.2 ⟨o, ho, hd⟩)
    have hgd : ∀ o ∈ G, o.dst ≠ some g := by
      have : ∀ {G : List XOper} {S : List Nat}, Hang g w S G → ∀ o ∈ G, o.dst ≠ some g := by
        intro G
        induction G with
        | nil => intro S _ o ho; cases ho
        | cons o G ih =>
          intro S hH o' ho'
          obtain ⟨d, t, w', h1, _, _, _, h5, h6⟩ := hH
          rcases List.mem_cons.1 ho' with rfl | ho'
          · rw [h1]; simpa using h5
          · exact ih h6 o' ho'
      exact this hH
    have h7 := xops_frame (E := E) G (S.filter (· ≠ g)) ρ ρ L _ (fun o ho d hd' => ?_) (fun _ _ => rfl) h3
    · refine xops_mono (fun ρ' L' h => ?_) h7
      obtain ⟨⟨⟨rfl, hv⟩, ha⟩, hb'⟩ := h
      refine key ρ' ha ?_ (fun _ => hv)
      rw [hb' g ?_, hg]
      have : ∀ l : List Nat, memN (l.filter (· ≠ g)) g = false := by
        intro l
        induction l with
        | nil => rfl
        | cons x l ih =>
          simp only [List.filter_cons]
          split
          · rename_i hx
            simp only [memN]
            rw [if_neg (fun h => by subst h; simp at hx)]
            exact ih
          · exact ih
      exact this S
    · have h8 := hd o ho d hd'
      have h9 : d ≠ g := fun h => by subst h; exact hgd o ho hd'
      have : ∀ l : List Nat, memN l d = true → memN (l.filter (· ≠ g)) d = true := by
        intro l
        induction l with
        | nil => intro h; exact h
        | cons x l ih =>
          intro h
          simp only [List.filter_cons]
          simp only [memN] at h
          by_cases hx : d = x
          · subst hx
            rw [if_pos (by simpa using h9)]
            simp [memN]
          · rw [if_neg hx] at h
            split
            · simp only [memN, if_neg hx]; exact ih h
            · exact ih h
      exact this S h8
  · have hgw : ρ g = .bool (!w) := by
      rw [hg]
      cases b <;> cases w <;> first | rfl | exact absurd rfl hb
    have hS0 : ∀ t, memN [g] t = true → t = g ∨ ρ t = .und := by
      intro t ht
      by_cases h : t = g
      · exact Or.inl h
      · simp [memN, h] at ht
    refine hang_skip hH hgw hS0 (fun ρ' ha hg' => ?_)
    refine key ρ' (fun n hn => ha n (fun o ho h => ?_)) ?_ (fun h => absurd h hb)
    · rw [hd o ho n h] at hn; cases hn
    · rw [hg']; congr 1; cases b <;> cases w <;> simp_all

@[go_sem] theorem memN_nil {n : Nat} : memN [] n = false := nr rfl
@[go_sem] theorem memN_cons {a n : Nat} {r : List Nat} : memN (a :: r) n = if n = a then true else memN r n := nr rfl
@[go_sem] theorem hav_get {W : List Nat} {vs : Rho} {n : Nat} : hav W vs ρ n = if memN W n = true then vs n else ρ n := nr rfl
@[go_sem] theorem act_none {S : List Nat} : act ρ S none = True := nr rfl
@[go_sem] theorem act_some {S : List Nat} {t : Nat} {w : Bool} : act ρ S (some (t, w)) = (ρ t = .bool w ∧ memN S t = false) := nr rfl
theorem cut_g {g : Nat} {w : Bool} {d : Nat} {op : XO} {r : List XOper} {S : List Nat} {acc : List XOper} {F : List XOper → List Nat → List XOper → Prop} (h : memN S g = true) (hd : ¬ d = g) :
    cutK g w (⟨some d, op, some (g, w)⟩ :: r) S acc F = cutK g w r (d :: S) (acc ++ [⟨some d, op, some (g, w)⟩]) F := by
  rw [cutK]; rw [if_pos ⟨h, fun _ => rfl, hd⟩]
theorem cut_t {g t : Nat} {w w' : Bool} {d : Nat} {op : XO} {r : List XOper} {S : List Nat} {acc : List XOper} {F : List XOper → List Nat → List XOper → Prop} (ht : ¬ t = g) (h : memN S t = true) (hd : ¬ d = g) :
    cutK g w (⟨some d, op, some (t, w')⟩ :: r) S acc F = cutK g w r (d :: S) (acc ++ [⟨some d, op, some (t, w')⟩]) F := by
  rw [cutK]; rw [if_pos ⟨h, fun h => absurd h ht, hd⟩]
theorem cut_out {g t : Nat} {w w' : Bool} {d : Nat} {op : XO} {r : List XOper} {S : List Nat} {acc : List XOper} {F : List XOper → List Nat → List XOper → Prop} (h : memN S t = false) :
    cutK g w (⟨some d, op, some (t, w')⟩ :: r) S acc F = F acc S (⟨some d, op, some (t, w')⟩ :: r) := by
  rw [cutK]; rw [if_neg (by simp [h])]
theorem cut_none {g : Nat} {w : Bool} {d : Option Nat} {op : XO} {r : List XOper} {S : List Nat} {acc : List XOper} {F : List XOper → List Nat → List XOper → Prop} :
    cutK g w (⟨d, op, none⟩ :: r) S acc F = F acc S (⟨d, op, none⟩ :: r) := by
  unfold cutK; cases d <;> rfl
theorem s_mg {d : Option Nat} {o : XO} {r : List XOper} {g : Nat} {b w : Bool} (hg : ρ g = .bool b)
    (h : cutK g w (⟨d, o, some (g, w)⟩ :: r) [g] [] fun G S rest => ∃ r v gd rest' y, rest = ⟨some r, mergePick g w v, gd⟩ :: rest' ∧ act ρ S gd ∧ (b = w → xops E G ρ L fun ρ' L' => L' = L ∧ ρ' v = .bool y) ∧
      ∀ vs, xops E rest' (put (hav S vs ρ) (some r) (.bool (mergeV w b y))) L KR) : xops E (⟨d, o, some (g, w)⟩ :: r) ρ L KR := s_merge g hg h
theorem ex_merge {A : List XOper} {g r v : Nat} {gd : Option (Nat × Bool)} {rest' : List XOper} {G : List XOper} {S : List Nat} {w b y : Bool} (h1 : A = ⟨some r, mergePick g w v, gd⟩ :: rest') (h2 : act ρ S gd)
    (h3 : b = w → xops E G ρ L fun ρ' L' => L' = L ∧ ρ' v = .bool y) (h4 : ∀ vs, xops E rest' (put (hav S vs ρ) (some r) (.bool (mergeV w b y))) L KR) :
    ∃ r v gd rest' y, A = ⟨some r, mergePick g w v, gd⟩ :: rest' ∧ act ρ S gd ∧ (b = w → xops E G ρ L fun ρ' L' => L' = L ∧ ρ' v = .bool y) ∧
      ∀ vs, xops E rest' (put (hav S vs ρ) (some r) (.bool (mergeV w b y))) L KR := ⟨r, v, gd, rest', y, h1, h2, h3, h4⟩
@[go_sem] theorem mergeT {b y : Bool} : mergeV true b y = (b && y) := nr rfl
@[go_sem] theorem mergeF {b y : Bool} : mergeV false b y = (b || y) := nr rfl
end
end Go.X
end
section
/- The calculus X, part 20: a function's contract out of a run: one that only computes. -/
namespace Go.X
open Go
section
variable {E : Env} {ρ : Rho} {L : List Blk}
def doneK (Q : Rho → List Blk → Prop) : XE → Rho → List Blk → Prop
  | .normal, ρ, L => Q ρ L
  | .ret, ρ, L => Q ρ L
  | _, _, _ => False
@[go_sem ↓] theorem done_ret {Q : Rho → List Blk → Prop} : doneK Q .ret ρ L = Q ρ L := nr rfl
@[go_sem ↓] theorem done_normal {Q : Rho → List Blk → Prop} : doneK Q .normal ρ L = Q ρ L := nr rfl

/-- One answer, in slot t. -/
theorem xpure1 {f : FuncId} {fn : Func} {t n : Nat} {c : XC} {args : List IV} {r : IV} (hf : E.P.funcs[f]? = some fn) (hF : compFn E.P fn = some ⟨n, [.tmp t], c⟩) (hnm : fn.name ≠ "runtime.NumGoroutine")
    (hargs : args.length ≤ fn.ntmps) (h : xrun E.noPan c (entry args) [] (doneK fun ρ L' => conv L' fuel renFreeze (ρ t) = some r)) : XPure E f args r := by
  refine xpure_of_fun hf hF hnm hargs (xrun_mono _ (fun e ρ L h => ?_) h)
  cases e with
  | normal => exact ⟨Or.inr rfl, h⟩
  | ret => exact ⟨Or.inl rfl, h⟩
  | exit => exact h.elim
  | goto => exact h.elim

/-- Two answers. -/
theorem xpure2 {f : FuncId} {fn : Func} {t t' n : Nat} {c : XC} {args : List IV} {r r' : IV} (hf : E.P.funcs[f]? = some fn) (hF : compFn E.P fn = some ⟨n, [.tmp t, .tmp t'], c⟩) (hnm : fn.name ≠ "runtime.NumGoroutine")
    (hargs : args.length ≤ fn.ntmps) (h : xrun E.noPan c (entry args) [] (doneK fun ρ L' => conv L' 11 renFreeze (ρ t) = some r ∧ conv L' 11 renFreeze (ρ t') = some r')) : XPure E f args (.tup [r, r']) := by
  refine xpure_of_fun hf hF hnm hargs (xrun_mono _ (fun e ρ L h => ?_) h)
  have key : conv L 11 renFreeze (ρ t) = some r ∧ conv L 11 renFreeze (ρ t') = some r' → xresults E.noPan [.tmp t, .tmp t'] ρ L fun r0 => conv L fuel renFreeze r0 = some (.tup [r, r']) := by
    rintro ⟨h1, h2⟩
    show conv L 12 renFreeze (.tup [ρ t, ρ t']) = _
    simp only [conv, mapO, h1, h2]; rfl
  cases e with
  | normal => exact ⟨Or.inr rfl, key h⟩
  | ret => exact ⟨Or.inl rfl, key h⟩
  | exit => exact h.elim
  | goto => exact h.elim
end
end Go.X
end
section
/- The calculus X, part 21a: steps through a region with several effects. -/
namespace Go.X
open Go
def inN (i : Nat) : List Nat → Bool
  | [] => false
  | a :: r => if i = a then true else inN i r
theorem inN_iff {i : Nat} : ∀ {l : List Nat}, inN i l = true ↔ i ∈ l
  | [] => by simp [inN]
  | a :: r => by
    unfold inN
    by_cases h : i = a
    · simp [h]
    · rw [if_neg h, inN_iff]; simp [h]
def ninP (a : Nat) : List Nat → Prop
  | [] => True
  | b :: l => a ≠ b ∧ ninP a l
def sepL : List Nat → List Nat → Prop
  | [], _ => True
  | a :: r, l => ninP a l ∧ sepL r l
theorem ninP_iff {a : Nat} : ∀ {l : List Nat}, ninP a l ↔ a ∉ l
  | [] => by simp [ninP]
  | b :: l => by simp [ninP, ninP_iff]
theorem sepL_iff {l : List Nat} : ∀ {r : List Nat}, sepL r l ↔ ∀ i ∈ r, i ∉ l
  | [] => by simp [sepL]
  | a :: r => by simp [sepL, ninP_iff, sepL_iff]
theorem ap_sep {r1 w1 r2 w2 : List Nat} : Ap r1 w1 r2 w2 = (sepL w1 r2 ∧ sepL w1 w2 ∧ sepL w2 r1) := by
  simp only [Ap, sepL_iff, eq_iff_iff]
  constructor
  · rintro ⟨h1, h2⟩; exact ⟨fun i h => (h1 i h).1, fun i h => (h1 i h).2, fun i h => (h2 i h).1⟩
  · rintro ⟨h1, h2, h3⟩; exact ⟨fun i h => ⟨h1 i h, h2 i h⟩, fun i h => ⟨h3 i h, fun h4 => h2 i h4 h⟩⟩
theorem chk_cons {chk r w : List Nat} {i : Nat} {r1 w1 : List Nat} {lg : List (Nat × List Nat × List Nat)} : chkL chk r w ((i, r1, w1) :: lg) = ((if inN i chk = true then (sepL w1 r ∧ sepL w1 w ∧ sepL w r1) else True) ∧ chkL chk r w lg) := by
  simp only [chkL, ap_sep, ← inN_iff]
  by_cases h : inN i chk = true <;> simp [h]
theorem rd_sub {o : XO} {e : Opd → IV} {L : List Blk} : (o.sub e).rd cev L = o.rd e L := by
  cases o <;> first
    | rfl
    | (simp only [XO.sub, XO.rd, cev_c, subL_map]; done)
    | (rename_i k xs
       cases k <;> first
         | rfl
         | (have h := congrArg (List.flatMap slS) (subL_map (e := e) (l := xs))
            simpa only [List.flatMap_map, XO.sub, XO.rd] using h))
theorem wr_sub {o : XO} {e : Opd → IV} : (o.sub e).wr cev = o.wr e := by cases o <;> rfl
theorem new_sub {o : XO} {e : Opd → IV} {L L' : List Blk} : newS (o.sub e) L L' = newS o L L' := by cases o <;> rfl
theorem chk_none {r w : List Nat} : ∀ {lg : List (Nat × List Nat × List Nat)}, chkL [] r w lg
  | [] => trivial
  | (i, r1, w1) :: lg => ⟨fun h => by simp at h, chk_none⟩
/-- Feet. -/
def feetR (o : XO) (L L' : List Blk) : List Nat := o.rd cev L ++ newS o L L'
def feetW (o : XO) (L L' : List Blk) : List Nat := o.wr cev ++ newS o L L'
section
variable {E : Env} {ρ : Rho} {L L' : List Blk} {KX : XE → Rho → List Blk → Prop} {KR : Rho → List Blk → Prop} {i : Nat} {lg : List (Nat × List Nat × List Nat)}
@[congr] theorem xopsD_congr {l : List (XOper × List Nat × Bool)} {ρ' : Rho} {L' : List Blk} {i' : Nat} {lg' : List (Nat × List Nat × List Nat)} (hi : same i = i') (hg : same lg = lg') (h : same ρ = ρ') (hL : same L = L') : xopsD E i lg l ρ L KR = xopsD E i' lg' l ρ' L' KR := by rw [← hi, ← hg, ← h, ← hL]; rfl
@[go_sem ↓] theorem s_drawR {l : List (XOper × List Nat × Bool)} : xrun E (.drawR l) ρ L KX = xopsD E 0 [] l ρ L fun ρ' L' => KX .normal ρ' L' := nr rfl
@[go_sem ↓] theorem s_dnil : xopsD E i lg [] ρ L KR = KR ρ L := nr rfl
@[go_sem ↓] theorem s_dplain {d : Option Nat} {o : XO} {r : List (XOper × List Nat × Bool)} : xopsD E i lg ((⟨d, o, none⟩, [], false) :: r) ρ L KR = xop E (o.sub (Opd.ev ρ)) cev L fun v L' => xopsD E (i + 1) lg r (put ρ d v) L' KR := by
  rw [← xop_sub]
  simp only [xopsD, Bool.false_eq_true, if_false]
  congr 1
  funext v L'
  simp [chk_none, same_eq]
@[go_sem ↓] theorem s_dkeep {d : Option Nat} {o : XO} {r : List (XOper × List Nat × Bool)} {chk : List Nat} : xopsD E i lg ((⟨d, o, none⟩, chk, true) :: r) ρ L KR = xop E (o.sub (Opd.ev ρ)) cev L fun v L' =>
    chkL chk (feetR (o.sub (Opd.ev ρ)) L L') (feetW (o.sub (Opd.ev ρ)) L L') lg ∧ xopsD E (i + 1) ((i, feetR (o.sub (Opd.ev ρ)) L L', feetW (o.sub (Opd.ev ρ)) L L') :: lg) r (put ρ d v) L' KR := by
  rw [← xop_sub]
  simp only [xopsD, if_true]
  congr 1
  funext v L'
  simp only [same_eq, feetR, feetW, rd_sub, wr_sub, new_sub]
@[go_sem ↓] theorem s_dchk {d : Option Nat} {o : XO} {r : List (XOper × List Nat × Bool)} {c : Nat} {chk : List Nat} : xopsD E i lg ((⟨d, o, none⟩, c :: chk, false) :: r) ρ L KR = xop E (o.sub (Opd.ev ρ)) cev L fun v L' =>
    chkL (c :: chk) (feetR (o.sub (Opd.ev ρ)) L L') (feetW (o.sub (Opd.ev ρ)) L L') lg ∧ xopsD E (i + 1) lg r (put ρ d v) L' KR := by
  rw [← xop_sub]
  simp only [xopsD, Bool.false_eq_true, if_false]
  congr 1
  funext v L'
  simp only [same_eq, feetR, feetW, rd_sub, wr_sub, new_sub]
@[go_sem ↓] theorem s_dgdo {d : Option Nat} {o : XO} {r : List (XOper × List Nat × Bool)} {chk : List Nat} {keep : Bool} {t : Nat} {w : Bool} (h : ρ t = .bool w) :
    xopsD E i lg ((⟨d, o, some (t, w)⟩, chk, keep) :: r) ρ L KR = xopsD E i lg ((⟨d, o, none⟩, chk, keep) :: r) ρ L KR := by
  simp [xopsD, h, same_eq]
@[go_sem ↓] theorem s_dgskip {d : Option Nat} {o : XO} {r : List (XOper × List Nat × Bool)} {chk : List Nat} {keep : Bool} {t : Nat} {w : Bool} (h : ρ t = .bool (!w)) :
    xopsD E i lg ((⟨d, o, some (t, w)⟩, chk, keep) :: r) ρ L KR = xopsD E (i + 1) lg r (put ρ d .und) L KR := by
  cases w <;> simp [xopsD, h, same_eq]
@[go_sem ↓] theorem s_dgund {d : Option Nat} {o : XO} {r : List (XOper × List Nat × Bool)} {chk : List Nat} {keep : Bool} {t : Nat} {w : Bool} (h : ρ t = .und) :
    xopsD E i lg ((⟨d, o, some (t, w)⟩, chk, keep) :: r) ρ L KR = xopsD E (i + 1) lg r (put ρ d .und) L KR := by
  simp [xopsD, h, same_eq]
attribute [go_sem] chk_cons
@[go_sem] theorem chk_nil {chk r w : List Nat} : chkL chk r w [] = True := nr rfl
@[go_sem] theorem in_nil : inN i [] = false := nr rfl
@[go_sem] theorem in_cons {a : Nat} {r : List Nat} : inN i (a :: r) = if i = a then true else inN i r := nr rfl
@[go_sem] theorem nin_nil {a : Nat} : ninP a [] = True := nr rfl
@[go_sem] theorem nin_cons {a b : Nat} {l : List Nat} : ninP a (b :: l) = (¬ a = b ∧ ninP a l) := nr rfl
@[go_sem] theorem sep_nil {l : List Nat} : sepL [] l = True := nr rfl
@[go_sem] theorem sep_cons {a : Nat} {r l : List Nat} : sepL (a :: r) l = (ninP a l ∧ sepL r l) := nr rfl
@[go_sem] theorem slP_ptr {s r o : Nat} : slP (.ptr s r o) = [s] := nr rfl
@[go_sem] theorem slP_iptr {rows : List (List IV)} {r o : Nat} : slP (.iptr rows r o) = [] := nr rfl
@[go_sem] theorem slP_raw {v : Value} : slP (.raw v) = [] := nr rfl
@[go_sem] theorem slS_sl {s off len cap : Nat} : slS (.sl s off len cap) = [s] := nr rfl
@[go_sem] theorem slS_isl {rows : List (List IV)} : slS (.isl rows) = [] := nr rfl
@[go_sem] theorem slS_nsl : slS .nsl = [] := nr rfl
@[go_sem] theorem slS_esl : slS .esl = [] := nr rfl
@[go_sem] theorem slS_str {s : List UInt8} : slS (.str s) = [] := nr rfl
section
variable {n sz len : Nat} {x y : IV} {z : List IV} {ps : List (Nat × Opd)} {lo hi : Option Opd} {f : Opd} {as : List Opd}
@[go_sem] theorem fr_load1 : feetR (.load1 (.c x)) L L' = slP x := by simp [feetR, XO.rd, newS, cev_c]
@[go_sem] theorem fw_load1 : feetW (.load1 (.c x)) L L' = [] := nr rfl
@[go_sem] theorem fr_loadN : feetR (.loadN n (.c x)) L L' = slP x := by simp [feetR, XO.rd, newS, cev_c]
@[go_sem] theorem fw_loadN : feetW (.loadN n (.c x)) L L' = [] := nr rfl
@[go_sem] theorem fr_idxS : feetR (.idxS n (.c x) (.c y)) L L' = slS x := by simp [feetR, XO.rd, newS, cev_c]
@[go_sem] theorem fw_idxS : feetW (.idxS n (.c x) (.c y)) L L' = [] := nr rfl
@[go_sem] theorem fr_slice : feetR (.slice n (.c x) lo hi) L L' = slS x := by simp [feetR, XO.rd, newS, cev_c]
@[go_sem] theorem fw_slice : feetW (.slice n (.c x) lo hi) L L' = [] := nr rfl
@[go_sem] theorem fw_pcall : feetW (.pcall f as) L L' = [] := nr rfl
@[go_sem] theorem fr_alloc : feetR (.alloc z) L L' = [L.length] := nr rfl
@[go_sem] theorem fw_alloc : feetW (.alloc z) L L' = [L.length] := nr rfl
@[go_sem] theorem fr_box : feetR (.box f) L L' = [L.length] := nr rfl
@[go_sem] theorem fw_box : feetW (.box f) L L' = [L.length] := nr rfl
@[go_sem] theorem fr_bslice : feetR (.bslice sz z len ps) L L' = [L.length] := nr rfl
@[go_sem] theorem fw_bslice : feetW (.bslice sz z len ps) L L' = [L.length] := nr rfl
@[go_sem] theorem fr_mkslice : feetR (.mkslice z n (.c x) (.c y)) L L' = [L.length] := nr rfl
@[go_sem] theorem fw_mkslice : feetW (.mkslice z n (.c x) (.c y)) L L' = [L.length] := nr rfl
@[go_sem] theorem fr_store : feetR (.store n (.c x) (.c y)) L L' = slP x := by simp [feetR, XO.rd, newS, cev_c]
@[go_sem] theorem fw_store : feetW (.store n (.c x) (.c y)) L L' = slP x := by simp [feetW, XO.wr, newS, cev_c]
@[go_sem] theorem fr_append : feetR (.append sz n (.c x) (.c y)) L L' = slS x ++ slS y ++ (if L'.length = L.length then [] else [L.length]) := by simp only [feetR, XO.rd, newS, cev_c]
@[go_sem] theorem fw_append : feetW (.append sz n (.c x) (.c y)) L L' = slS x ++ (if L'.length = L.length then [] else [L.length]) := by simp only [feetW, XO.wr, newS, cev_c]
end
end
end Go.X
end
section
/- The calculus X, part 21b: small equations that every walk uses. -/
namespace Go.X
theorem xrun_forget {E : Env} {c : XC} {ρ : Rho} {L : List Blk} {K : XE → Rho → List Blk → Prop} (F : Rho → Prop) (h0 : F ρ) (h : ∀ ρ, F ρ → xrun E c ρ L K) : xrun E c ρ L K := h ρ h0
section
variable {E : Env} {L : List Blk} {KV : IV → List Blk → Prop}
@[go_sem] theorem o_build0 {z : List IV} : xop E (.build z []) cev L KV = KV (.agg z) L := nr rfl
@[go_sem] theorem o_buildS {z : List IV} {off n : Nat} {x : IV} {r : List (Nat × Nat × Opd)} (h1 : (cellsOf x).length = n) (h2 : off + n ≤ z.length) :
    xop E (.build z ((off, n, .c x) :: r)) cev L KV = xop E (.build (splice z off (cellsOf x)) r) cev L KV := by
  simp only [xop, List.map_cons, cev_c, xfill]
  rw [if_pos ⟨h1, h2⟩]
end
attribute [go_sem] Bool.false_eq_true Bool.not_true Bool.not_false Bool.and_true Bool.true_and Bool.or_false Bool.false_or Bool.and_false Bool.false_and Bool.or_true Bool.true_or true_and and_true eq_self not_false_eq_true List.map_cons List.map_nil List.nil_append List.append_nil decide_true decide_false List.length_cons List.length_nil List.getD_cons_zero List.getD_cons_succ Int.cast_ofNat_Int Int.toNat_natCast Int.natCast_nonneg List.getElem?_cons_zero List.getElem?_cons_succ List.cons_append List.set_cons_zero List.set_cons_succ List.take_zero List.take_succ_cons List.drop_zero List.drop_succ_cons List.drop_nil List.take_nil List.all_cons List.all_nil Nat.zero_add Nat.zero_lt_one Nat.le_refl
end Go.X
end
