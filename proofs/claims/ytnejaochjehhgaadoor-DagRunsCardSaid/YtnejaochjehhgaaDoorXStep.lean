/- The calculus X, part 17: rows for going through a run by rewriting. (The constructor rows of XO.sub were printed by a small program.) -/
import Derived.Test.YtnejaochjehhgaaDoorXLib
set_option linter.unusedVariables false
set_option linter.unusedSimpArgs false
set_option linter.unusedSectionVars false
namespace Go.X
open Go
/-- (A row that is no rfl row: the kernel is not to unfold.) -/
theorem nr {α : Sort _} {a b : α} (h : a = b) : a = b := h
def subO (e : Opd → IV) : Option Opd → Option Opd
  | none => none
  | some x => some (.c (e x))
def subL (e : Opd → IV) : List Opd → List Opd
  | [] => []
  | x :: r => .c (e x) :: subL e r
def subP (e : Opd → IV) : List (Nat × Nat × Opd) → List (Nat × Nat × Opd)
  | [] => []
  | (a, b, x) :: r => (a, b, .c (e x)) :: subP e r
def subQ (e : Opd → IV) : List (Nat × Opd) → List (Nat × Opd)
  | [] => []
  | (a, x) :: r => (a, .c (e x)) :: subQ e r
/-- The operation with its operands' values in it. -/
def XO.sub (e : Opd → IV) : XO → XO
  | .mov v_x => .mov (.c (e v_x))
  | .pick v_c v_a v_b => .pick (.c (e v_c)) (.c (e v_a)) (.c (e v_b))
  | .alloc v_zero => .alloc v_zero
  | .box v_x => .box (.c (e v_x))
  | .build v_zero v_parts => .build v_zero (subP e v_parts)
  | .bslice v_sz v_zero v_len v_parts => .bslice v_sz v_zero v_len (subQ e v_parts)
  | .load1 v_a => .load1 (.c (e v_a))
  | .loadN v_n v_a => .loadN v_n (.c (e v_a))
  | .store v_n v_a v_x => .store v_n (.c (e v_a)) (.c (e v_x))
  | .nilck v_x => .nilck (.c (e v_x))
  | .bin v_op v_x v_y => .bin v_op (.c (e v_x)) (.c (e v_y))
  | .eqB v_neg v_x v_y => .eqB v_neg (.c (e v_x)) (.c (e v_y))
  | .un v_op v_x => .un v_op (.c (e v_x))
  | .cvInt v_k v_x => .cvInt v_k (.c (e v_x))
  | .cvIntStr v_x => .cvIntStr (.c (e v_x))
  | .cvStr v_x => .cvStr (.c (e v_x))
  | .fldA v_off v_x => .fldA v_off (.c (e v_x))
  | .fld v_off v_n v_agg v_x => .fld v_off v_n v_agg (.c (e v_x))
  | .idxS v_n v_x v_i => .idxS v_n (.c (e v_x)) (.c (e v_i))
  | .idxA v_n v_sz v_x v_i => .idxA v_n v_sz (.c (e v_x)) (.c (e v_i))
  | .idx v_x v_i => .idx (.c (e v_x)) (.c (e v_i))
  | .slice v_n v_x v_lo v_hi => .slice v_n (.c (e v_x)) (subO e v_lo) (subO e v_hi)
  | .sliceS v_x v_lo v_hi => .sliceS (.c (e v_x)) (subO e v_lo) (subO e v_hi)
  | .slice0 v_x => .slice0 (.c (e v_x))
  | .mkfn v_f v_first v_cap => .mkfn v_f (subL e v_first) (subL e v_cap)
  | .mkslice v_zero v_bytes v_len v_cap => .mkslice v_zero v_bytes (.c (e v_len)) (.c (e v_cap))
  | .len v_x => .len (.c (e v_x))
  | .lenS v_x => .lenS (.c (e v_x))
  | .append v_sz v_bytes v_s v_x => .append v_sz v_bytes (.c (e v_s)) (.c (e v_x))
  | .max2 v_x v_y => .max2 (.c (e v_x)) (.c (e v_y))
  | .min2 v_x v_y => .min2 (.c (e v_x)) (.c (e v_y))
  | .call v_f v_args => .call (.c (e v_f)) (subL e v_args)
  | .ext v_t v_i => .ext (.c (e v_t)) v_i
  | .pcall v_f v_args => .pcall (.c (e v_f)) (subL e v_args)
  | .isNil v_k v_n v_x => .isNil v_k v_n (.c (e v_x))
  | .rng v_x => .rng (.c (e v_x))
  | .nxt v_x => .nxt (.c (e v_x))
def cev : Opd → IV := Opd.ev fun _ => .und
@[go_sem] theorem sub_mov {e : Opd → IV} {v_x : Opd} : XO.sub e (XO.mov v_x) = .mov (.c (e v_x)) := nr rfl
@[go_sem] theorem sub_pick {e : Opd → IV} {v_c v_a v_b : Opd} : XO.sub e (XO.pick v_c v_a v_b) = .pick (.c (e v_c)) (.c (e v_a)) (.c (e v_b)) := nr rfl
@[go_sem] theorem sub_alloc {e : Opd → IV} {v_zero : List IV} : XO.sub e (XO.alloc v_zero) = .alloc v_zero := nr rfl
@[go_sem] theorem sub_box {e : Opd → IV} {v_x : Opd} : XO.sub e (XO.box v_x) = .box (.c (e v_x)) := nr rfl
@[go_sem] theorem sub_build {e : Opd → IV} {v_zero : List IV} {v_parts : List (Nat × Nat × Opd)} : XO.sub e (XO.build v_zero v_parts) = .build v_zero (subP e v_parts) := nr rfl
@[go_sem] theorem sub_bslice {e : Opd → IV} {v_sz : Nat} {v_zero : List IV} {v_len : Nat} {v_parts : List (Nat × Opd)} : XO.sub e (XO.bslice v_sz v_zero v_len v_parts) = .bslice v_sz v_zero v_len (subQ e v_parts) := nr rfl
@[go_sem] theorem sub_load1 {e : Opd → IV} {v_a : Opd} : XO.sub e (XO.load1 v_a) = .load1 (.c (e v_a)) := nr rfl
@[go_sem] theorem sub_loadN {e : Opd → IV} {v_n : Nat} {v_a : Opd} : XO.sub e (XO.loadN v_n v_a) = .loadN v_n (.c (e v_a)) := nr rfl
@[go_sem] theorem sub_store {e : Opd → IV} {v_n : Nat} {v_a v_x : Opd} : XO.sub e (XO.store v_n v_a v_x) = .store v_n (.c (e v_a)) (.c (e v_x)) := nr rfl
@[go_sem] theorem sub_nilck {e : Opd → IV} {v_x : Opd} : XO.sub e (XO.nilck v_x) = .nilck (.c (e v_x)) := nr rfl
@[go_sem] theorem sub_bin {e : Opd → IV} {v_op : BinOp} {v_x v_y : Opd} : XO.sub e (XO.bin v_op v_x v_y) = .bin v_op (.c (e v_x)) (.c (e v_y)) := nr rfl
@[go_sem] theorem sub_eqB {e : Opd → IV} {v_neg : Bool} {v_x v_y : Opd} : XO.sub e (XO.eqB v_neg v_x v_y) = .eqB v_neg (.c (e v_x)) (.c (e v_y)) := nr rfl
@[go_sem] theorem sub_un {e : Opd → IV} {v_op : UnOp} {v_x : Opd} : XO.sub e (XO.un v_op v_x) = .un v_op (.c (e v_x)) := nr rfl
@[go_sem] theorem sub_cvInt {e : Opd → IV} {v_k : IntKind} {v_x : Opd} : XO.sub e (XO.cvInt v_k v_x) = .cvInt v_k (.c (e v_x)) := nr rfl
@[go_sem] theorem sub_cvIntStr {e : Opd → IV} {v_x : Opd} : XO.sub e (XO.cvIntStr v_x) = .cvIntStr (.c (e v_x)) := nr rfl
@[go_sem] theorem sub_cvStr {e : Opd → IV} {v_x : Opd} : XO.sub e (XO.cvStr v_x) = .cvStr (.c (e v_x)) := nr rfl
@[go_sem] theorem sub_fldA {e : Opd → IV} {v_off : Nat} {v_x : Opd} : XO.sub e (XO.fldA v_off v_x) = .fldA v_off (.c (e v_x)) := nr rfl
@[go_sem] theorem sub_fld {e : Opd → IV} {v_off v_n : Nat} {v_agg : Bool} {v_x : Opd} : XO.sub e (XO.fld v_off v_n v_agg v_x) = .fld v_off v_n v_agg (.c (e v_x)) := nr rfl
@[go_sem] theorem sub_idxS {e : Opd → IV} {v_n : Nat} {v_x v_i : Opd} : XO.sub e (XO.idxS v_n v_x v_i) = .idxS v_n (.c (e v_x)) (.c (e v_i)) := nr rfl
@[go_sem] theorem sub_idxA {e : Opd → IV} {v_n v_sz : Nat} {v_x v_i : Opd} : XO.sub e (XO.idxA v_n v_sz v_x v_i) = .idxA v_n v_sz (.c (e v_x)) (.c (e v_i)) := nr rfl
@[go_sem] theorem sub_idx {e : Opd → IV} {v_x v_i : Opd} : XO.sub e (XO.idx v_x v_i) = .idx (.c (e v_x)) (.c (e v_i)) := nr rfl
@[go_sem] theorem sub_slice {e : Opd → IV} {v_n : Nat} {v_x : Opd} {v_lo v_hi : Option Opd} : XO.sub e (XO.slice v_n v_x v_lo v_hi) = .slice v_n (.c (e v_x)) (subO e v_lo) (subO e v_hi) := nr rfl
@[go_sem] theorem sub_sliceS {e : Opd → IV} {v_x : Opd} {v_lo v_hi : Option Opd} : XO.sub e (XO.sliceS v_x v_lo v_hi) = .sliceS (.c (e v_x)) (subO e v_lo) (subO e v_hi) := nr rfl
@[go_sem] theorem sub_slice0 {e : Opd → IV} {v_x : Opd} : XO.sub e (XO.slice0 v_x) = .slice0 (.c (e v_x)) := nr rfl
@[go_sem] theorem sub_mkfn {e : Opd → IV} {v_f : Fn} {v_first v_cap : List Opd} : XO.sub e (XO.mkfn v_f v_first v_cap) = .mkfn v_f (subL e v_first) (subL e v_cap) := nr rfl
@[go_sem] theorem sub_mkslice {e : Opd → IV} {v_zero : List IV} {v_bytes : Nat} {v_len v_cap : Opd} : XO.sub e (XO.mkslice v_zero v_bytes v_len v_cap) = .mkslice v_zero v_bytes (.c (e v_len)) (.c (e v_cap)) := nr rfl
@[go_sem] theorem sub_len {e : Opd → IV} {v_x : Opd} : XO.sub e (XO.len v_x) = .len (.c (e v_x)) := nr rfl
@[go_sem] theorem sub_lenS {e : Opd → IV} {v_x : Opd} : XO.sub e (XO.lenS v_x) = .lenS (.c (e v_x)) := nr rfl
@[go_sem] theorem sub_append {e : Opd → IV} {v_sz v_bytes : Nat} {v_s v_x : Opd} : XO.sub e (XO.append v_sz v_bytes v_s v_x) = .append v_sz v_bytes (.c (e v_s)) (.c (e v_x)) := nr rfl
@[go_sem] theorem sub_max2 {e : Opd → IV} {v_x v_y : Opd} : XO.sub e (XO.max2 v_x v_y) = .max2 (.c (e v_x)) (.c (e v_y)) := nr rfl
@[go_sem] theorem sub_min2 {e : Opd → IV} {v_x v_y : Opd} : XO.sub e (XO.min2 v_x v_y) = .min2 (.c (e v_x)) (.c (e v_y)) := nr rfl
@[go_sem] theorem sub_call {e : Opd → IV} {v_f : Opd} {v_args : List Opd} : XO.sub e (XO.call v_f v_args) = .call (.c (e v_f)) (subL e v_args) := nr rfl
@[go_sem] theorem sub_ext {e : Opd → IV} {v_t : Opd} {v_i : Nat} : XO.sub e (XO.ext v_t v_i) = .ext (.c (e v_t)) v_i := nr rfl
@[go_sem] theorem sub_pcall {e : Opd → IV} {v_f : Opd} {v_args : List Opd} : XO.sub e (XO.pcall v_f v_args) = .pcall (.c (e v_f)) (subL e v_args) := nr rfl
@[go_sem] theorem sub_isNil {e : Opd → IV} {v_k : Nat} {v_n : Bool} {v_x : Opd} : XO.sub e (XO.isNil v_k v_n v_x) = .isNil v_k v_n (.c (e v_x)) := nr rfl
@[go_sem] theorem sub_rng {e : Opd → IV} {v_x : Opd} : XO.sub e (XO.rng v_x) = .rng (.c (e v_x)) := nr rfl
@[go_sem] theorem sub_nxt {e : Opd → IV} {v_x : Opd} : XO.sub e (XO.nxt v_x) = .nxt (.c (e v_x)) := nr rfl
@[go_sem] theorem cev_c {v : IV} : cev (.c v) = v := nr rfl
theorem subL_map {e : Opd → IV} : ∀ {l : List Opd}, (subL e l).map cev = l.map e
  | [] => rfl
  | x :: r => by simp only [subL, List.map_cons, cev_c, subL_map]
theorem subP_map {e : Opd → IV} : ∀ {l : List (Nat × Nat × Opd)}, (subP e l).map (fun p => (p.1, p.2.1, cev p.2.2)) = l.map fun p => (p.1, p.2.1, e p.2.2)
  | [] => rfl
  | (a, b, x) :: r => by simp only [subP, List.map_cons, cev_c, subP_map]
theorem subQ_map {e : Opd → IV} : ∀ {l : List (Nat × Opd)}, (subQ e l).map (fun p => (p.1, cev p.2)) = l.map fun p => (p.1, e p.2)
  | [] => rfl
  | (a, x) :: r => by simp only [subQ, List.map_cons, cev_c, subQ_map]
theorem subO_map {e : Opd → IV} {x : Option Opd} : (subO e x).map cev = x.map e := by cases x <;> rfl
theorem xop_sub {E : Env} {o : XO} {e : Opd → IV} {L : List Blk} {K : IV → List Blk → Prop} : xop E o e L K = xop E (o.sub e) cev L K := by
  cases o <;> first | rfl | simp only [XO.sub, xop, cev_c, subL_map, subP_map, subQ_map, subO_map]

/-- Behind the first piece. -/
def seqK (E : Env) (b : XC) (K : XE → Rho → List Blk → Prop) : XE → Rho → List Blk → Prop
  | .normal, ρ, L => xrun E b ρ L K
  | e, ρ, L => K e ρ L
section
variable {E : Env} {ρ : Rho} {L : List Blk} {KX : XE → Rho → List Blk → Prop} {KR : Rho → List Blk → Prop} {KV : IV → List Blk → Prop}

@[congr] theorem xrun_congr {c : XC} {ρ' : Rho} {L' : List Blk} (h : ρ = ρ') (hL : L = L') : xrun E c ρ L KX = xrun E c ρ' L' KX := by rw [h, hL]
@[congr] theorem xops_congr {l : List XOper} {ρ' : Rho} {L' : List Blk} (h : ρ = ρ') (hL : L = L') : xops E l ρ L KR = xops E l ρ' L' KR := by rw [h, hL]
@[congr] theorem xop_congr {o o' : XO} {e : Opd → IV} {L' : List Blk} (ho : o = o') (hL : L = L') : xop E o e L KV = xop E o' e L' KV := by rw [ho, hL]
@[congr] theorem xcall_congr {f : FuncId} {as as' : List IV} {L' : List Blk} (ho : as = as') (hL : L = L') : xcall E f as L KV = xcall E f as' L' KV := by rw [ho, hL]

@[go_sem ↓] theorem s_skip : xrun E .skip ρ L KX = KX .normal ρ L := nr rfl
@[go_sem ↓] theorem s_ops {l : List XOper} : xrun E (.ops l) ρ L KX = xops E l ρ L fun ρ' L' => KX .normal ρ' L' := nr rfl
@[go_sem ↓] theorem s_draw {l : List XOper} : xrun E (.draw l) ρ L KX = (l.all (fun o => o.op.quiet) = true ∧ xops E l ρ L fun ρ' L' => KX .normal ρ' L') := nr rfl
@[go_sem ↓] theorem s_drawE {l : List XOper} : xrun E (.drawE l) ρ L KX = xops E l ρ L fun ρ' L' => KX .normal ρ' L' := nr rfl
theorem seqK_eq {b : XC} : (fun e ρ' L' => match e with
    | .normal => xrun E b ρ' L' KX
    | e => KX e ρ' L') = seqK E b KX := by
  funext e ρ L; cases e <;> rfl
@[go_sem ↓] theorem s_seq {a b : XC} : xrun E (.seq a b) ρ L KX = xrun E a ρ L (seqK E b KX) := by rw [← seqK_eq]; rfl
@[go_sem ↓] theorem s_seqK1 {b : XC} : seqK E b KX .normal ρ L = xrun E b ρ L KX := nr rfl
@[go_sem ↓] theorem s_seqK2 {b : XC} : seqK E b KX .ret ρ L = KX .ret ρ L := nr rfl
@[go_sem ↓] theorem s_seqK3 {b : XC} {l : Nat} : seqK E b KX (.goto l) ρ L = KX (.goto l) ρ L := nr rfl
@[go_sem ↓] theorem s_seqK4 {b : XC} {id : Nat} : seqK E b KX (.exit id) ρ L = KX (.exit id) ρ L := nr rfl
@[go_sem ↓] theorem s_block {id : Nat} {b : XC} : xrun E (.block id b) ρ L KX = xrun E b ρ L (XE.inBlock id KX) := nr rfl
@[go_sem ↓] theorem s_exit {id : Nat} : xrun E (.exit id) ρ L KX = KX (.exit id) ρ L := nr rfl
@[go_sem ↓] theorem s_label {id : Nat} : xrun E (.label id) ρ L KX = KX .normal ρ L := nr rfl
@[go_sem ↓] theorem s_goto {id : Nat} : xrun E (.goto id) ρ L KX = KX (.goto id) ρ L := nr rfl
@[go_sem ↓] theorem s_ret : xrun E .ret ρ L KX = KX .ret ρ L := nr rfl
@[go_sem ↓] theorem s_condT {c : Opd} {t e : XC} (h : c.ev ρ = .bool true) : xrun E (.cond c t e) ρ L KX = xrun E t ρ L KX := by
  simp [xrun, h]
@[go_sem ↓] theorem s_condF {c : Opd} {t e : XC} (h : c.ev ρ = .bool false) : xrun E (.cond c t e) ρ L KX = xrun E e ρ L KX := by
  simp [xrun, h]
theorem s_cond {c : Opd} {t e : XC} {b : Bool} (h : c.ev ρ = .bool b) (hT : b = true → xrun E t ρ L KX) (hF : b = false → xrun E e ρ L KX) : xrun E (.cond c t e) ρ L KX := by
  simp only [xrun, h]; exact ⟨hT, hF⟩
@[go_sem ↓] theorem s_inB1 {id : Nat} : XE.inBlock id KX .normal ρ L = KX .normal ρ L := nr rfl
@[go_sem ↓] theorem s_inB2 {id : Nat} : XE.inBlock id KX .ret ρ L = KX .ret ρ L := nr rfl
@[go_sem ↓] theorem s_inB3 {id l : Nat} : XE.inBlock id KX (.goto l) ρ L = KX (.goto l) ρ L := nr rfl
@[go_sem ↓] theorem s_inB4 {id : Nat} : XE.inBlock id KX (.exit id) ρ L = KX .normal ρ L := by simp [XE.inBlock]
@[go_sem ↓] theorem s_inB5 {id i : Nat} (h : ¬ i = id) : XE.inBlock id KX (.exit i) ρ L = KX (.exit i) ρ L := by simp [XE.inBlock, h]

@[go_sem ↓] theorem s_nil : xops E [] ρ L KR = KR ρ L := nr rfl
@[go_sem ↓] theorem s_cons {d : Option Nat} {o : XO} {r : List XOper} : xops E (⟨d, o, none⟩ :: r) ρ L KR = xop E (o.sub (Opd.ev ρ)) cev L fun v L' => xops E r (put ρ d v) L' KR := by
  simp only [xops]; exact xop_sub
@[go_sem ↓] theorem s_gdo {d : Option Nat} {o : XO} {r : List XOper} {t : Nat} {w : Bool} (h : ρ t = .bool w) :
    xops E (⟨d, o, some (t, w)⟩ :: r) ρ L KR = xop E (o.sub (Opd.ev ρ)) cev L fun v L' => xops E r (put ρ d v) L' KR := by
  rw [← xop_sub]; simp [xops, h]
@[go_sem ↓] theorem s_gskip {d : Option Nat} {o : XO} {r : List XOper} {t : Nat} {w : Bool} (h : ρ t = .bool (!w)) :
    xops E (⟨d, o, some (t, w)⟩ :: r) ρ L KR = xops E r (put ρ d .und) L KR := by
  cases w <;> simp [xops, h]
@[go_sem ↓] theorem s_gund {d : Option Nat} {o : XO} {r : List XOper} {t : Nat} {w : Bool} (h : ρ t = .und) :
    xops E (⟨d, o, some (t, w)⟩ :: r) ρ L KR = xops E r (put ρ d .und) L KR := by
  simp [xops, h]
theorem s_guard {d : Option Nat} {o : XO} {r : List XOper} {t : Nat} {w b : Bool} (h : ρ t = .bool b) (h1 : b = true → xops E (⟨d, o, some (t, w)⟩ :: r) ρ L KR)
    (h2 : b = false → xops E (⟨d, o, some (t, w)⟩ :: r) ρ L KR) : xops E (⟨d, o, some (t, w)⟩ :: r) ρ L KR := by
  cases b
  · exact h2 rfl
  · exact h1 rfl

@[go_sem] theorem ev_t {n : Nat} : Opd.ev ρ (.t n) = ρ n := nr rfl
@[go_sem] theorem ev_c {v : IV} : Opd.ev ρ (.c v) = v := nr rfl
@[go_sem] theorem ev_f {n : Nat} : Opd.ev ρ (.f n) = .fn (.func n) [] [] := nr rfl
@[go_sem] theorem ev_g {n : Nat} : Opd.ev ρ (.g n) = .raw (.pointer (some ⟨n, 0, none⟩)) := nr rfl
@[go_sem] theorem subL_nil {e : Opd → IV} : subL e [] = [] := nr rfl
@[go_sem] theorem subL_cons {e : Opd → IV} {x : Opd} {r : List Opd} : subL e (x :: r) = .c (e x) :: subL e r := nr rfl
@[go_sem] theorem subP_nil {e : Opd → IV} : subP e [] = [] := nr rfl
@[go_sem] theorem subP_cons {e : Opd → IV} {a b : Nat} {x : Opd} {r : List (Nat × Nat × Opd)} : subP e ((a, b, x) :: r) = (a, b, .c (e x)) :: subP e r := nr rfl
@[go_sem] theorem subQ_nil {e : Opd → IV} : subQ e [] = [] := nr rfl
@[go_sem] theorem subQ_cons {e : Opd → IV} {a : Nat} {x : Opd} {r : List (Nat × Opd)} : subQ e ((a, x) :: r) = (a, .c (e x)) :: subQ e r := nr rfl
@[go_sem] theorem subO_none {e : Opd → IV} : subO e none = none := nr rfl
@[go_sem] theorem subO_some {e : Opd → IV} {x : Opd} : subO e (some x) = some (.c (e x)) := nr rfl
@[go_sem] theorem put_get {d n : Nat} {v : IV} : put ρ (some d) v n = if n = d then v else ρ n := nr rfl
@[go_sem] theorem put_none {v : IV} : put ρ none v = ρ := nr rfl

@[go_sem] theorem o_mov {v : IV} : xop E (.mov (.c v)) cev L KV = KV v L := nr rfl
@[go_sem] theorem o_pickT {a b : IV} : xop E (.pick (.c (.bool true)) (.c a) (.c b)) cev L KV = KV a L := nr rfl
@[go_sem] theorem o_pickF {a b : IV} : xop E (.pick (.c (.bool false)) (.c a) (.c b)) cev L KV = KV b L := nr rfl
theorem o_pick {t : Bool} {a b : IV} : xop E (.pick (.c (.bool t)) (.c a) (.c b)) cev L KV = KV (if t = true then a else b) L := nr rfl
@[go_sem] theorem o_alloc {z : List IV} : xop E (.alloc z) cev L KV = KV (.ptr L.length 0 0) (L ++ [.cells z.length [z]]) := nr rfl
@[go_sem] theorem o_box {x : IV} : xop E (.box (.c x)) cev L KV = KV (.ptr L.length 0 0) (L ++ [.cells (cellsOf x).length [cellsOf x]]) := nr rfl
@[go_sem] theorem o_nilck1 {s r o : Nat} : xop E (.nilck (.c (.ptr s r o))) cev L KV = KV (.ptr s r o) L := nr rfl
@[go_sem] theorem o_nilck2 {rows : List (List IV)} {r o : Nat} : xop E (.nilck (.c (.iptr rows r o))) cev L KV = KV (.iptr rows r o) L := nr rfl
@[go_sem] theorem o_nilck3 {f : FuncId} {a b : List IV} : xop E (.nilck (.c (.fn (.func f) a b))) cev L KV = KV (.fn (.func f) a b) L := nr rfl
@[go_sem] theorem o_add {k : IntKind} {a b : Int} : xop E (.bin .add (.c (.int k a)) (.c (.int k b))) cev L KV = KV (.int k (k.wrap (a + b))) L := by simp only [xop, xbin, cev_c, true_and]
@[go_sem] theorem o_sub {k : IntKind} {a b : Int} : xop E (.bin .sub (.c (.int k a)) (.c (.int k b))) cev L KV = KV (.int k (k.wrap (a - b))) L := by simp only [xop, xbin, cev_c, true_and]
@[go_sem] theorem o_mul {k : IntKind} {a b : Int} : xop E (.bin .mul (.c (.int k a)) (.c (.int k b))) cev L KV = KV (.int k (k.wrap (a * b))) L := by simp only [xop, xbin, cev_c, true_and]
@[go_sem] theorem o_quo {k : IntKind} {a b : Int} : xop E (.bin .quo (.c (.int k a)) (.c (.int k b))) cev L KV = (b ≠ 0 ∧ KV (.int k (k.wrap (a.tdiv b))) L) := by simp only [xop, xbin, cev_c, true_and]
@[go_sem] theorem o_rem {k : IntKind} {a b : Int} : xop E (.bin .rem (.c (.int k a)) (.c (.int k b))) cev L KV = (b ≠ 0 ∧ KV (.int k (a.tmod b)) L) := by simp only [xop, xbin, cev_c, true_and]
@[go_sem] theorem o_eql {k : IntKind} {a b : Int} : xop E (.bin .eql (.c (.int k a)) (.c (.int k b))) cev L KV = KV (.bool (decide (a = b))) L := by simp only [xop, xbin, cev_c, true_and]
@[go_sem] theorem o_neq {k : IntKind} {a b : Int} : xop E (.bin .neq (.c (.int k a)) (.c (.int k b))) cev L KV = KV (.bool (!decide (a = b))) L := by simp only [xop, xbin, cev_c, true_and]
@[go_sem] theorem o_lss {k : IntKind} {a b : Int} : xop E (.bin .lss (.c (.int k a)) (.c (.int k b))) cev L KV = KV (.bool (decide (a < b))) L := by simp only [xop, xbin, cev_c, true_and]
@[go_sem] theorem o_leq {k : IntKind} {a b : Int} : xop E (.bin .leq (.c (.int k a)) (.c (.int k b))) cev L KV = KV (.bool (decide (a ≤ b))) L := by simp only [xop, xbin, cev_c, true_and]
@[go_sem] theorem o_gtr {k : IntKind} {a b : Int} : xop E (.bin .gtr (.c (.int k a)) (.c (.int k b))) cev L KV = KV (.bool (decide (b < a))) L := by simp only [xop, xbin, cev_c, true_and]
@[go_sem] theorem o_geq {k : IntKind} {a b : Int} : xop E (.bin .geq (.c (.int k a)) (.c (.int k b))) cev L KV = KV (.bool (decide (b ≤ a))) L := by simp only [xop, xbin, cev_c, true_and]
@[go_sem] theorem o_cat {a b : List UInt8} : xop E (.bin .add (.c (.str a)) (.c (.str b))) cev L KV = (a.length + b.length ≤ 9223372036854775807 ∧ KV (.str (a ++ b)) L) := nr rfl
@[go_sem] theorem o_seql {a b : List UInt8} : xop E (.bin .eql (.c (.str a)) (.c (.str b))) cev L KV = KV (.bool (decide (a = b))) L := nr rfl
@[go_sem] theorem o_sneq {a b : List UInt8} : xop E (.bin .neq (.c (.str a)) (.c (.str b))) cev L KV = KV (.bool (!decide (a = b))) L := nr rfl
@[go_sem] theorem o_slss {a b : List UInt8} : xop E (.bin .lss (.c (.str a)) (.c (.str b))) cev L KV = KV (.bool (Op.bytesLess a b)) L := nr rfl
@[go_sem] theorem o_eqB {n a b : Bool} : xop E (.eqB n (.c (.bool a)) (.c (.bool b))) cev L KV = KV (.bool (if n = true then !decide (a = b) else decide (a = b))) L := nr rfl
@[go_sem] theorem o_not {b : Bool} : xop E (.un .not (.c (.bool b))) cev L KV = KV (.bool (!b)) L := nr rfl
@[go_sem] theorem o_neg {k : IntKind} {n : Int} : xop E (.un .neg (.c (.int k n))) cev L KV = KV (.int k (k.wrap (0 - n))) L := nr rfl
@[go_sem] theorem o_cvInt {k k' : IntKind} {n : Int} : xop E (.cvInt k (.c (.int k' n))) cev L KV = KV (.int k (k.wrap n)) L := nr rfl
@[go_sem] theorem o_cvIntStr {k' : IntKind} {n : Int} : xop E (.cvIntStr (.c (.int k' n))) cev L KV = KV (.str (Utf8.encode n).data.toList) L := nr rfl
@[go_sem] theorem o_cvStr {s : List UInt8} : xop E (.cvStr (.c (.str s))) cev L KV = KV (.str s) L := nr rfl
@[go_sem] theorem o_fldA1 {off s r o : Nat} : xop E (.fldA off (.c (.ptr s r o))) cev L KV = KV (.ptr s r (o + off)) L := nr rfl
@[go_sem] theorem o_fldA2 {off : Nat} {rows : List (List IV)} {r o : Nat} : xop E (.fldA off (.c (.iptr rows r o))) cev L KV = KV (.iptr rows r (o + off)) L := nr rfl
@[go_sem] theorem o_fldT {off n : Nat} {cs : List IV} : xop E (.fld off n true (.c (.agg cs))) cev L KV = (off + n ≤ cs.length ∧ KV (.agg ((cs.drop off).take n)) L) := by simp [xop, cev_c]
@[go_sem] theorem o_fldF {off n : Nat} {cs : List IV} : xop E (.fld off n false (.c (.agg cs))) cev L KV = (off + n ≤ cs.length ∧ off < cs.length ∧ KV (cs.getD off .und) L) := by simp [xop, cev_c]
@[go_sem] theorem o_idxS1 {m : Nat} {rows : List (List IV)} {k : IntKind} {n : Int} : xop E (.idxS m (.c (.isl rows)) (.c (.int k n))) cev L KV = (Rows m rows ∧ 0 ≤ n ∧ n < rows.length ∧ KV (.iptr rows n.toNat 0) L) := nr rfl
@[go_sem] theorem o_idxS2 {m s off len cap : Nat} {k : IntKind} {n : Int} : xop E (.idxS m (.c (.sl s off len cap)) (.c (.int k n))) cev L KV = (szOf L s = some m ∧ 0 ≤ n ∧ n < len ∧ KV (.ptr s (off + n.toNat) 0) L) := nr rfl
@[go_sem] theorem o_idxA1 {m sz s r o : Nat} {k : IntKind} {n : Int} : xop E (.idxA m sz (.c (.ptr s r o)) (.c (.int k n))) cev L KV = (0 ≤ n ∧ n < m ∧ KV (.ptr s r (o + n.toNat * sz)) L) := nr rfl
@[go_sem] theorem o_idxA2 {m sz : Nat} {rows : List (List IV)} {r o : Nat} {k : IntKind} {n : Int} : xop E (.idxA m sz (.c (.iptr rows r o)) (.c (.int k n))) cev L KV = (0 ≤ n ∧ n < m ∧ KV (.iptr rows r (o + n.toNat * sz)) L) := nr rfl
@[go_sem] theorem o_idx {s : List UInt8} {k : IntKind} {n : Int} : xop E (.idx (.c (.str s)) (.c (.int k n))) cev L KV = (0 ≤ n ∧ n < s.length ∧ KV (.int .u8 (s.getD n.toNat 0).toNat) L) := nr rfl
@[go_sem] theorem o_load1i {rows : List (List IV)} {r o : Nat} : xop E (.load1 (.c (.iptr rows r o))) cev L KV = (r < rows.length ∧ o < (rows.getD r []).length ∧ KV ((rows.getD r []).getD o .und) L) := nr rfl
@[go_sem] theorem o_loadNi {n : Nat} {rows : List (List IV)} {r o : Nat} : xop E (.loadN n (.c (.iptr rows r o))) cev L KV = (r < rows.length ∧ o + n ≤ (rows.getD r []).length ∧ KV (.agg (((rows.getD r []).drop o).take n)) L) := nr rfl
@[go_sem] theorem o_load1g {n o : Nat} {cs : List IV} (h : E.gl n = some cs) : xop E (.load1 (.c (.raw (.pointer (some ⟨n, o, none⟩))))) cev L KV = (o < cs.length ∧ KV (cs.getD o .und) L) := by
  simp [xop, cev_c, rowsAt, h]
@[go_sem] theorem o_loadNg {m n o : Nat} {cs : List IV} (h : E.gl n = some cs) : xop E (.loadN m (.c (.raw (.pointer (some ⟨n, o, none⟩))))) cev L KV = (o + m ≤ cs.length ∧ KV (.agg ((cs.drop o).take m)) L) := by
  simp [xop, cev_c, rowsAt, h]
@[go_sem] theorem o_nilck4 {n o : Nat} : xop E (.nilck (.c (.raw (.pointer (some ⟨n, o, none⟩))))) cev L KV = KV (.raw (.pointer (some ⟨n, o, none⟩))) L := nr rfl
@[go_sem] theorem o_fldA3 {off n o : Nat} : xop E (.fldA off (.c (.raw (.pointer (some ⟨n, o, none⟩))))) cev L KV = KV (.raw (.pointer (some ⟨n, o + off, none⟩))) L := nr rfl
@[go_sem] theorem o_idxA3 {m sz b o : Nat} {k : IntKind} {n : Int} : xop E (.idxA m sz (.c (.raw (.pointer (some ⟨b, o, none⟩)))) (.c (.int k n))) cev L KV = (0 ≤ n ∧ n < m ∧ KV (.raw (.pointer (some ⟨b, o + n.toNat * sz, none⟩))) L) := nr rfl
theorem o_load1 {s r o sz : Nat} {rows : List (List IV)} (h : L[s]? = some (.cells sz rows)) : xop E (.load1 (.c (.ptr s r o))) cev L KV = (r < rows.length ∧ o < (rows.getD r []).length ∧ KV ((rows.getD r []).getD o .und) L) := by
  simp only [xop, cev_c, rowsAt, h]
theorem o_loadN {n s r o sz : Nat} {rows : List (List IV)} (h : L[s]? = some (.cells sz rows)) : xop E (.loadN n (.c (.ptr s r o))) cev L KV = (r < rows.length ∧ o + n ≤ (rows.getD r []).length ∧ KV (.agg (((rows.getD r []).drop o).take n)) L) := by
  simp only [xop, cev_c, rowsAt, h]
theorem o_store {n s r o sz : Nat} {x : IV} {rows : List (List IV)} (h : L[s]? = some (.cells sz rows)) : xop E (.store n (.c (.ptr s r o)) (.c x)) cev L KV =
    (r < rows.length ∧ o + n ≤ (rows.getD r []).length ∧ (cellsOf x).length = n ∧ (cellsOf x).all isCell = true ∧
        KV .und (L.set s (.cells sz (rows.set r (splice (rows.getD r []) o (cellsOf x)))))) := by
  simp only [xop, cev_c, h]
/-- What lies in a block of ours. -/
def blkK (b : Option Blk) (K : Nat → List (List IV) → Prop) : Prop :=
  match b with
  | some (.cells sz rows) => K sz rows
  | _ => False
@[congr] theorem blkK_congr {b b' : Option Blk} {K : Nat → List (List IV) → Prop} (h : b = b') : blkK b K = blkK b' K := by rw [h]
@[go_sem] theorem blk_cells {sz : Nat} {rows : List (List IV)} {K : Nat → List (List IV) → Prop} : blkK (some (.cells sz rows)) K = K sz rows := nr rfl
@[go_sem] theorem o_load1p {s r o : Nat} : xop E (.load1 (.c (.ptr s r o))) cev L KV = blkK L[s]? fun _ rows => r < rows.length ∧ o < (rows.getD r []).length ∧ KV ((rows.getD r []).getD o .und) L := by
  simp only [xop, cev_c, rowsAt, blkK, eq_iff_iff]
  split <;> split <;> simp_all
@[go_sem] theorem o_loadNp {n s r o : Nat} : xop E (.loadN n (.c (.ptr s r o))) cev L KV = blkK L[s]? fun _ rows => r < rows.length ∧ o + n ≤ (rows.getD r []).length ∧ KV (.agg (((rows.getD r []).drop o).take n)) L := by
  simp only [xop, cev_c, rowsAt, blkK, eq_iff_iff]
  split <;> split <;> simp_all
@[go_sem] theorem o_storep {n s r o : Nat} {x : IV} : xop E (.store n (.c (.ptr s r o)) (.c x)) cev L KV = blkK L[s]? fun sz rows =>
    r < rows.length ∧ o + n ≤ (rows.getD r []).length ∧ (cellsOf x).length = n ∧ (cellsOf x).all isCell = true ∧
        KV .und (L.set s (.cells sz (rows.set r (splice (rows.getD r []) o (cellsOf x))))) := by
  simp only [xop, cev_c, blkK, eq_iff_iff]
  split <;> split <;> simp_all
@[go_sem] theorem c_bool {b : Bool} : cellsOf (.bool b) = [.bool b] := nr rfl
@[go_sem] theorem c_int {k : IntKind} {n : Int} : cellsOf (.int k n) = [.int k n] := nr rfl
@[go_sem] theorem c_str {s : List UInt8} : cellsOf (.str s) = [.str s] := nr rfl
@[go_sem] theorem c_ptr {s r o : Nat} : cellsOf (.ptr s r o) = [.ptr s r o] := nr rfl
@[go_sem] theorem c_iptr {rows : List (List IV)} {r o : Nat} : cellsOf (.iptr rows r o) = [.iptr rows r o] := nr rfl
@[go_sem] theorem c_isl {rows : List (List IV)} : cellsOf (.isl rows) = [.isl rows] := nr rfl
@[go_sem] theorem c_sl {s o l c : Nat} : cellsOf (.sl s o l c) = [.sl s o l c] := nr rfl
@[go_sem] theorem c_nsl : cellsOf .nsl = [.nsl] := nr rfl
@[go_sem] theorem c_esl : cellsOf .esl = [.esl] := nr rfl
@[go_sem] theorem c_fn {f : Fn} {a b : List IV} : cellsOf (.fn f a b) = [.fn f a b] := nr rfl
@[go_sem] theorem c_raw {v : Value} : cellsOf (.raw v) = [.raw v] := nr rfl
@[go_sem] theorem c_agg {cs : List IV} : cellsOf (.agg cs) = cs := nr rfl
@[go_sem] theorem i_bool {b : Bool} : isCell (.bool b) = true := nr rfl
@[go_sem] theorem i_int {k : IntKind} {n : Int} : isCell (.int k n) = true := nr rfl
@[go_sem] theorem i_str {s : List UInt8} : isCell (.str s) = true := nr rfl
@[go_sem] theorem i_ptr {s r o : Nat} : isCell (.ptr s r o) = true := nr rfl
@[go_sem] theorem i_iptr {rows : List (List IV)} {r o : Nat} : isCell (.iptr rows r o) = true := nr rfl
@[go_sem] theorem i_isl {rows : List (List IV)} : isCell (.isl rows) = true := nr rfl
@[go_sem] theorem i_sl {s o l c : Nat} : isCell (.sl s o l c) = true := nr rfl
@[go_sem] theorem i_nsl : isCell .nsl = true := nr rfl
@[go_sem] theorem i_esl : isCell .esl = true := nr rfl
@[go_sem] theorem i_fn {f : Fn} {a b : List IV} : isCell (.fn f a b) = true := nr rfl
@[go_sem] theorem splice_def {α : Type} {l xs : List α} {i : Nat} : splice l i xs = l.take i ++ xs ++ l.drop (i + xs.length) := nr rfl
@[go_sem] theorem o_sliceS00 {s : List UInt8} : xop E (.sliceS (.c (.str s)) none none) cev L KV = KV (.str s) L := by simp [xop, cev_c, bnd]
@[go_sem] theorem o_sliceS01 {s : List UInt8} {k : IntKind} {h : Int} : xop E (.sliceS (.c (.str s)) none (some (.c (.int k h)))) cev L KV = (0 ≤ h ∧ h.toNat ≤ s.length ∧ KV (.str (s.take h.toNat)) L) := by simp [xop, cev_c, bnd]
@[go_sem] theorem o_sliceS10 {s : List UInt8} {k : IntKind} {l : Int} : xop E (.sliceS (.c (.str s)) (some (.c (.int k l))) none) cev L KV = (0 ≤ l ∧ l.toNat ≤ s.length ∧ KV (.str (s.drop l.toNat)) L) := by simp [xop, cev_c, bnd]
@[go_sem] theorem o_sliceS11 {s : List UInt8} {k k' : IntKind} {l h : Int} : xop E (.sliceS (.c (.str s)) (some (.c (.int k l))) (some (.c (.int k' h)))) cev L KV =
    (0 ≤ l ∧ 0 ≤ h ∧ l.toNat ≤ h.toNat ∧ h.toNat ≤ s.length ∧ KV (.str ((s.take h.toNat).drop l.toNat)) L) := by simp [xop, cev_c, bnd]
@[go_sem] theorem o_lenS {s : List UInt8} : xop E (.lenS (.c (.str s))) cev L KV = KV (.int .i64 s.length) L := nr rfl
@[go_sem] theorem o_len1 {rows : List (List IV)} : xop E (.len (.c (.isl rows))) cev L KV = KV (.int .i64 rows.length) L := nr rfl
@[go_sem] theorem o_len2 {s off len cap : Nat} : xop E (.len (.c (.sl s off len cap))) cev L KV = KV (.int .i64 len) L := nr rfl
@[go_sem] theorem o_len3 : xop E (.len (.c .nsl)) cev L KV = KV (.int .i64 0) L := nr rfl
@[go_sem] theorem o_len4 : xop E (.len (.c .esl)) cev L KV = KV (.int .i64 0) L := nr rfl
@[go_sem] theorem o_max2 {k k' : IntKind} {a b : Int} : xop E (.max2 (.c (.int k a)) (.c (.int k' b))) cev L KV = KV (.int k (if b > a then b else a)) L := nr rfl
@[go_sem] theorem o_min2 {k k' : IntKind} {a b : Int} : xop E (.min2 (.c (.int k a)) (.c (.int k' b))) cev L KV = KV (.int k (if b < a then b else a)) L := nr rfl
@[go_sem] theorem o_ext {cs : List IV} {i : Nat} : xop E (.ext (.c (.tup cs)) i) cev L KV = (i < cs.length ∧ KV (cs.getD i .und) L) := nr rfl
@[go_sem] theorem o_call {f : FuncId} {a b : List IV} {as : List Opd} : xop E (.call (.c (.fn (.func f) a b)) as) cev L KV = xcall E f (a ++ as.map cev ++ b) L KV := nr rfl
@[go_sem] theorem o_mkfn {f : Fn} {a b : List Opd} : xop E (.mkfn f a b) cev L KV = KV (.fn f (a.map cev) (b.map cev)) L := nr rfl
@[go_sem] theorem o_build {z : List IV} {ps : List (Nat × Nat × Opd)} {cs : List IV} (h : xfill z (ps.map fun p => (p.1, p.2.1, cev p.2.2)) = some cs) : xop E (.build z ps) cev L KV = KV (.agg cs) L := by
  simp only [xop, h]
theorem o_pcall {f : FuncId} {a b : List IV} {as : List Opd} {args' : List IV} {r : IV} (hc : mapO (conv L fuel renNone) (a ++ as.map cev ++ b) = some args') (h : XPure E f args' r) (hr : ∀ m, conv [] fuel (renShift m) r = some r) (hk : KV r L) :
    xop E (.pcall (.c (.fn (.func f) a b)) as) cev L KV := ⟨args', r, hc, h, hr, hk⟩
@[go_sem] theorem o_yld {s : Nat} {as : List Opd} : xop E (.call (.c (.yld s)) as) cev L KV = E.yl s (as.map cev) L KV := nr rfl
@[go_sem] theorem o_nil0 {n : Bool} : xop E (.isNil 0 n (.c .nsl)) cev L KV = KV (.bool (if n then !true else true)) L := nr rfl
@[go_sem] theorem o_nil1 {n : Bool} {rows : List (List IV)} : xop E (.isNil 0 n (.c (.isl rows))) cev L KV = (KV (.bool (if n then !false else false)) L ∧ (rows = [] → KV (.bool (if n then !true else true)) L)) := nr rfl
@[go_sem] theorem o_nil2 {n : Bool} {s o l c : Nat} : xop E (.isNil 0 n (.c (.sl s o l c))) cev L KV = (KV (.bool (if n then !false else false)) L ∧ (c = 0 → KV (.bool (if n then !true else true)) L)) := nr rfl
@[go_sem] theorem o_nil3 {n : Bool} : xop E (.isNil 0 n (.c .esl)) cev L KV = (KV (.bool (if n then !true else true)) L ∧ KV (.bool (if n then !false else false)) L) := nr rfl
@[go_sem] theorem o_nil4 {n : Bool} {t : TypeId} {v : IV} : xop E (.isNil 1 n (.c (.iface t v))) cev L KV = KV (.bool (if n then !false else false)) L := nr rfl
@[go_sem] theorem o_nil5 {n : Bool} : xop E (.isNil 1 n (.c (.raw .nilIface))) cev L KV = KV (.bool (if n then !true else true)) L := nr rfl
@[go_sem] theorem o_nil6 {n : Bool} {f : Fn} {a b : List IV} : xop E (.isNil 2 n (.c (.fn f a b))) cev L KV = KV (.bool (if n then !false else false)) L := nr rfl
@[go_sem] theorem o_rng {x : List UInt8} : xop E (.rng (.c (.str x))) cev L KV = KV (.ptr L.length 0 0) (L ++ [.siter x 0]) := nr rfl
@[go_sem] theorem o_slice0a {rows : List (List IV)} : xop E (.slice0 (.c (.isl rows))) cev L KV = KV .esl L := nr rfl
@[go_sem] theorem o_slice0b {s off len cap : Nat} : xop E (.slice0 (.c (.sl s off len cap))) cev L KV = KV .esl L := nr rfl
@[go_sem] theorem o_isl00 {m : Nat} {rows : List (List IV)} : xop E (.slice m (.c (.isl rows)) none none) cev L KV = (Rows m rows ∧ KV (.isl rows) L) := by simp [xop, cev_c, bnd]
@[go_sem] theorem o_isl01 {m : Nat} {rows : List (List IV)} {k : IntKind} {h : Int} : xop E (.slice m (.c (.isl rows)) none (some (.c (.int k h)))) cev L KV = (Rows m rows ∧ 0 ≤ h ∧ h.toNat ≤ rows.length ∧ KV (.isl (rows.take h.toNat)) L) := by simp [xop, cev_c, bnd]
@[go_sem] theorem o_isl10 {m : Nat} {rows : List (List IV)} {k : IntKind} {l : Int} : xop E (.slice m (.c (.isl rows)) (some (.c (.int k l))) none) cev L KV = (Rows m rows ∧ 0 ≤ l ∧ l.toNat ≤ rows.length ∧ KV (.isl (rows.drop l.toNat)) L) := by simp [xop, cev_c, bnd]
@[go_sem] theorem o_isl11 {m : Nat} {rows : List (List IV)} {k k' : IntKind} {l h : Int} : xop E (.slice m (.c (.isl rows)) (some (.c (.int k l))) (some (.c (.int k' h)))) cev L KV =
    (Rows m rows ∧ 0 ≤ l ∧ 0 ≤ h ∧ l.toNat ≤ h.toNat ∧ h.toNat ≤ rows.length ∧ KV (.isl ((rows.take h.toNat).drop l.toNat)) L) := by simp [xop, cev_c, bnd]
end
end Go.X
