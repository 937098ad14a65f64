/- An abstract interpreter of the translated code: equations for values. -/
import Derived.Test.YtjcldkfgpifebaaGQEval
namespace Go.Q
set_option linter.unusedVariables false
set_option linter.unusedSimpArgs false
set_option linter.unusedSectionVars false
open Go
section
variable {E : Env} {s : Slots} {h : Heap} {k k' : IntKind} {a b : Int}
theorem bt_int (op : BinOp) (T : Nat) (y : AV) : binOpT E op T (.d (.int k) a) y = binOp op (.d (.int k) a) y := rfl
theorem bt_str (op : BinOp) (T : Nat) (x : ByteArray) (y : AV) : binOpT E op T (.d .str x) y = binOp op (.d .str x) y := rfl
def boolVia (op : BinOp) (x : Bool) (y : AV) (ti : TI) : Option AV := match ti.desc with
  | .bool => binOp op (.d .bool x) y
  | _ => none
theorem bt_bool (op : BinOp) (T : Nat) (x : Bool) (y : AV) : binOpT E op T (.d .bool x) y = (E.tab T).bind (boolVia op x y) := rfl
theorem boolVia_bool (op : BinOp) (x : Bool) (y : AV) (n m : Nat) : boolVia op x y ⟨.bool, n, m⟩ = binOp op (.d .bool x) y := rfl
/-! comparisons of structs -/
def aggTy (E : Env) (op : BinOp) (xs ys : List AV) (fs : List (Nat × Nat)) (t : Ty) : Option AV := if t.eqb = true then (eqFields E.tab xs ys fs).bind (boolOf op) else none
theorem aggTy_eq (op : BinOp) (xs ys : List AV) (fs : List (Nat × Nat)) (t : Ty) : aggTy E op xs ys fs t = if t.eqb = true then (eqFields E.tab xs ys fs).bind (boolOf op) else none := rfl
def aggVia (E : Env) (op : BinOp) (T : Nat) (xs : List AV) (y : AV) (ti : TI) : Option AV := (E.ty T).bind fun t => if t.eqb = true then match ti.desc, y with
    | .struct fs, .agg ys => (eqFields E.tab xs ys fs).bind (boolOf op)
    | _, _ => none
    else none
theorem bt_agg (op : BinOp) (T : Nat) (xs : List AV) (y : AV) : binOpT E op T (.agg xs) y = (E.tab T).bind (aggVia E op T xs y) := rfl
theorem aggVia_mk (op : BinOp) (T : Nat) (xs ys : List AV) (fs : List (Nat × Nat)) (n m : Nat) : aggVia E op T xs (.agg ys) ⟨.struct fs, n, m⟩ = (E.ty T).bind (aggTy E op xs ys fs) := rfl
def eqF3 (b r : Bool) : Bool := b && r
theorem eqF3_eq (b r : Bool) : eqF3 b r = (b && r) := rfl
def eqF2 (tab : Nat → Option TI) (xs ys : List AV) (fs : List (Nat × Nat)) (b : Bool) : Option Bool := (eqFields tab xs ys fs).map (eqF3 b)
theorem eqF2_eq (tab : Nat → Option TI) (xs ys : List AV) (fs : List (Nat × Nat)) (b : Bool) : eqF2 tab xs ys fs b = (eqFields tab xs ys fs).map (eqF3 b) := rfl
def eqF1 (tab : Nat → Option TI) (xs ys : List AV) (fs : List (Nat × Nat)) (o : Nat) (ti : TI) : Option Bool := (eqCell ti.desc xs[o]? ys[o]?).bind (eqF2 tab xs ys fs)
theorem eqF1_mk (tab : Nat → Option TI) (xs ys : List AV) (fs : List (Nat × Nat)) (o : Nat) (td : TD) (n m : Nat) : eqF1 tab xs ys fs o ⟨td, n, m⟩ = (eqCell td xs[o]? ys[o]?).bind (eqF2 tab xs ys fs) := rfl
theorem eqF_nil (tab : Nat → Option TI) (xs ys : List AV) : eqFields tab xs ys [] = some true := rfl
theorem eqF_cons (tab : Nat → Option TI) (xs ys : List AV) (fs : List (Nat × Nat)) (o T : Nat) : eqFields tab xs ys ((o, T) :: fs) = (tab T).bind (eqF1 tab xs ys fs o) := rfl
theorem eqC_int (k0 k : IntKind) (a b : Int) : eqCell (.int k0) (some (.d (.int k) a)) (some (.d (.int k) b)) = some (decide (a = b)) := by simp [eqCell]
theorem eqC_bool (a b : Bool) : eqCell .bool (some (.d .bool a)) (some (.d .bool b)) = some (a == b) := rfl
theorem eqC_str (a b : ByteArray) : eqCell .str (some (.d .str a)) (some (.d .str b)) = some (a.toList == b.toList) := rfl
/-! comparisons with nil -/
def cmpVia (op : BinOp) (x y : AV) (ti : TI) : Option AV := (cmpNil ti.desc x y).bind (boolOf op)
theorem cmpVia_mk (op : BinOp) (x y : AV) (td : TD) (n m : Nat) : cmpVia op x y ⟨td, n, m⟩ = (cmpNil td x y).bind (boolOf op) := rfl
theorem bh_int (h : Heap) (op : BinOp) (T : Nat) (y : AV) : binOpH E h op T (.d (.int k) a) y = binOpT E op T (.d (.int k) a) y := rfl
theorem bh_str (h : Heap) (op : BinOp) (T : Nat) (x : ByteArray) (y : AV) : binOpH E h op T (.d .str x) y = binOpT E op T (.d .str x) y := rfl
theorem bh_bool (h : Heap) (op : BinOp) (T : Nat) (x : Bool) (y : AV) : binOpH E h op T (.d .bool x) y = binOpT E op T (.d .bool x) y := rfl
theorem bh_agg (h : Heap) (op : BinOp) (T : Nat) (xs : List AV) (y : AV) : binOpH E h op T (.agg xs) y = binOpT E op T (.agg xs) y := rfl
theorem bh_nilP (h : Heap) (op : BinOp) (T : Nat) (y : AV) : binOpH E h op T .nilP y = binOpT E op T .nilP y := rfl
theorem bh_op (h : Heap) (op : BinOp) (T : Nat) (i n : Nat) (y : AV) : binOpH E h op T (.op i n) y = binOpT E op T (.op i n) y := rfl
theorem bh_el (h : Heap) (op : BinOp) (T : Nat) (p : Pl) (i n : Nat) (y : AV) : binOpH E h op T (.el p i n) y = binOpT E op T (.el p i n) y := rfl
theorem bh_rp (h : Heap) (op : BinOp) (T : Nat) (vs : List AV) (y : AV) : binOpH E h op T (.rp vs) y = binOpT E op T (.rp vs) y := rfl
theorem bh_nilS (h : Heap) (op : BinOp) (T : Nat) (y : AV) : binOpH E h op T .nilS y = binOpT E op T .nilS y := rfl
theorem bh_sl (h : Heap) (op : BinOp) (T : Nat) (t : Ty) (xs : List t.Den) (y : AV) : binOpH E h op T (.d (.slice t) xs) y = binOpT E op T (.d (.slice t) xs) y := rfl
theorem bh_os (h : Heap) (op : BinOp) (T : Nat) (p : Pl) : binOpH E h op T (.os p) .nilS = (E.tab T).bind (osNil op h p) := rfl
def osArr (op : BinOp) : Option AV → Option AV
  | some (.d (.slice _) xs) => if List.length xs = 0 then none else boolOf op false
  | _ => none
theorem osNil_sl (h : Heap) (op : BinOp) (p : Pl) (e n b : Nat) : osNil op h p ⟨.slice e, n, b⟩ = osArr op (h.arrAt p) := by
  simp only [osNil, osArr]
  cases h.arrAt p with
  | none => rfl
  | some v => cases v <;> first | rfl | (rename_i t x; cases t <;> rfl)
theorem osArr_some (op : BinOp) (t : Ty) (xs : List t.Den) : osArr op (some (.d (.slice t) xs)) = if List.length xs = 0 then none else boolOf op false := rfl
theorem bt_nilP (op : BinOp) (T : Nat) (y : AV) : binOpT E op T .nilP y = (E.tab T).bind (cmpVia op .nilP y) := rfl
theorem bt_op (op : BinOp) (T : Nat) (i n : Nat) (y : AV) : binOpT E op T (.op i n) y = (E.tab T).bind (cmpVia op (.op i n) y) := rfl
theorem bt_el (op : BinOp) (T : Nat) (p : Pl) (i n : Nat) (y : AV) : binOpT E op T (.el p i n) y = (E.tab T).bind (cmpVia op (.el p i n) y) := rfl
theorem bt_rp (op : BinOp) (T : Nat) (vs : List AV) (y : AV) : binOpT E op T (.rp vs) y = (E.tab T).bind (cmpVia op (.rp vs) y) := rfl
theorem bt_nilS (op : BinOp) (T : Nat) (y : AV) : binOpT E op T .nilS y = (E.tab T).bind (cmpVia op .nilS y) := rfl
theorem bt_sl (op : BinOp) (T : Nat) (t : Ty) (xs : List t.Den) (y : AV) : binOpT E op T (.d (.slice t) xs) y = (E.tab T).bind (cmpVia op (.d (.slice t) xs) y) := rfl
theorem cn_nn (e : Nat) : cmpNil (.ptr e) .nilP .nilP = some true := rfl
theorem cn_no (e i n : Nat) : cmpNil (.ptr e) .nilP (.op i n) = some false := rfl
theorem cn_ne (e : Nat) (p : Pl) (i n : Nat) : cmpNil (.ptr e) .nilP (.el p i n) = some false := rfl
theorem cn_nr (e : Nat) (vs : List AV) : cmpNil (.ptr e) .nilP (.rp vs) = some false := rfl
theorem cn_on (e i n : Nat) : cmpNil (.ptr e) (.op i n) .nilP = some false := rfl
theorem cn_en (e : Nat) (p : Pl) (i n : Nat) : cmpNil (.ptr e) (.el p i n) .nilP = some false := rfl
theorem cn_rn (e : Nat) (vs : List AV) : cmpNil (.ptr e) (.rp vs) .nilP = some false := rfl
theorem cn_ss (e : Nat) : cmpNil (.slice e) .nilS .nilS = some true := rfl
theorem cn_sn (e : Nat) (t : Ty) (xs : List t.Den) : cmpNil (.slice e) (.d (.slice t) xs) .nilS = if List.length xs = 0 then none else some false := rfl
theorem bo_eql (b : Bool) : boolOf .eql b = some (.d .bool b) := rfl
theorem bo_neq (b : Bool) : boolOf .neq b = some (.d .bool !b) := rfl
theorem bi_add : binOp .add (.d (.int k) a) (.d (.int k) b) = some (.d (.int k) (k.wrap (a + b))) := by simp [binOp, binInt]
theorem bi_sub : binOp .sub (.d (.int k) a) (.d (.int k) b) = some (.d (.int k) (k.wrap (a - b))) := by simp [binOp, binInt]
theorem bi_mul : binOp .mul (.d (.int k) a) (.d (.int k) b) = some (.d (.int k) (k.wrap (a * b))) := by simp [binOp, binInt]
theorem bi_quo : binOp .quo (.d (.int k) a) (.d (.int k) b) = if b = 0 then none else some (.d (.int k) (k.wrap (a.tdiv b))) := by simp [binOp, binInt]
theorem bi_rem : binOp .rem (.d (.int k) a) (.d (.int k) b) = if b = 0 then none else some (.d (.int k) (a.tmod b)) := by simp [binOp, binInt]
theorem bi_shl : binOp .shl (.d (.int k) a) (.d (.int k') b) = if b < 0 then none else some (.d (.int k) (k.wrap (a * 2 ^ (min b.toNat k.bits)))) := rfl
theorem bi_shr : binOp .shr (.d (.int k) a) (.d (.int k') b) = if b < 0 then none else some (.d (.int k) (a.fdiv (2 ^ (min b.toNat k.bits)))) := rfl
/-- Bits of two numbers. -/
def bitsOf (op : BinOp) (k : IntKind) (x y : Int) : Int := (intBits op k x y).getD 0
theorem bi_and : binOp .and (.d (.int k) a) (.d (.int k) b) = some (.d (.int k) (bitsOf .and k a b)) := by simp [binOp, binInt, intBits, bitsOf]
theorem bi_or : binOp .or (.d (.int k) a) (.d (.int k) b) = some (.d (.int k) (bitsOf .or k a b)) := by simp [binOp, binInt, intBits, bitsOf]
theorem bi_xor : binOp .xor (.d (.int k) a) (.d (.int k) b) = some (.d (.int k) (bitsOf .xor k a b)) := by simp [binOp, binInt, intBits, bitsOf]
theorem bi_andNot : binOp .andNot (.d (.int k) a) (.d (.int k) b) = some (.d (.int k) (bitsOf .andNot k a b)) := by simp [binOp, binInt, intBits, bitsOf]
theorem bi_eql : binOp .eql (.d (.int k) a) (.d (.int k) b) = some (.d .bool (decide (a = b))) := by simp [binOp, binInt]; rfl
theorem bi_neq : binOp .neq (.d (.int k) a) (.d (.int k) b) = some (.d .bool (!decide (a = b))) := by simp [binOp, binInt]; rfl
theorem bi_lss : binOp .lss (.d (.int k) a) (.d (.int k) b) = some (.d .bool (decide (a < b))) := by simp [binOp, binInt]
theorem bi_leq : binOp .leq (.d (.int k) a) (.d (.int k) b) = some (.d .bool (decide (a ≤ b))) := by simp [binOp, binInt]
theorem bi_gtr : binOp .gtr (.d (.int k) a) (.d (.int k) b) = some (.d .bool (decide (b < a))) := by simp [binOp, binInt]
theorem bi_geq : binOp .geq (.d (.int k) a) (.d (.int k) b) = some (.d .bool (decide (b ≤ a))) := by simp [binOp, binInt]
theorem bb_eql (x y : Bool) : binOp .eql (.d .bool x) (.d .bool y) = some (.d .bool (x == y)) := rfl
theorem bb_neq (x y : Bool) : binOp .neq (.d .bool x) (.d .bool y) = some (.d .bool (!(x == y))) := rfl
theorem bs_all (op : BinOp) (x y : ByteArray) : binOp op (.d .str x) (.d .str y) = binStr op x y := by cases op <;> rfl
theorem un_not (x : Bool) : unOp .not (.d .bool x) = some (.d .bool (!x)) := rfl
theorem un_neg : unOp .neg (.d (.int k) a) = some (.d (.int k) (k.wrap (0 - a))) := rfl
theorem agg_struct (fs : List (Nat × Nat)) (n m : Nat) : TI.isAgg ⟨.struct fs, n, m⟩ = true := rfl
theorem agg_arr (l e : Nat) (n m : Nat) : TI.isAgg ⟨.arr l e, n, m⟩ = true := rfl
theorem agg_int (n m : Nat) : TI.isAgg ⟨.int k, n, m⟩ = false := rfl
theorem agg_bool (n m : Nat) : TI.isAgg ⟨.bool, n, m⟩ = false := rfl
theorem agg_str (n m : Nat) : TI.isAgg ⟨.str, n, m⟩ = false := rfl
theorem agg_err (n m : Nat) : TI.isAgg ⟨.err, n, m⟩ = false := rfl
theorem agg_slice (e : Nat) (n m : Nat) : TI.isAgg ⟨.slice e, n, m⟩ = false := rfl
theorem agg_ptr (e : Nat) (n m : Nat) : TI.isAgg ⟨.ptr e, n, m⟩ = false := rfl
theorem agg_func (n m : Nat) : TI.isAgg ⟨.func, n, m⟩ = false := rfl
theorem ca_rp (vs : List AV) : cellsAt h (.rp vs) = some vs := rfl

/-! cells -/
def boxCells (off : Nat) : Option Obj → Option (List AV)
  | some (.box vs) => some (vs.drop off)
  | _ => none
theorem ca_op (id off : Nat) : cellsAt h (.op id off) = boxCells off (h.get id) := by
  simp only [cellsAt, boxCells]
  cases h.get id with
  | none => rfl
  | some o => cases o <;> rfl
theorem boxCells_box (off : Nat) (vs : List AV) : boxCells off (some (.box vs)) = some (vs.drop off) := rfl
theorem ca_el (p : Pl) (i off : Nat) : cellsAt h (.el p i off) = (h.arrAt p).bind (elAt h p i off) := rfl
theorem elAt_eq (p : Pl) (i off : Nat) (t : Ty) (xs : List t.Den) : elAt h p i off (.d (.slice t) xs) = some ((elemCells h p i t (xs.getD i t.zero)).drop off) := rfl
def arrOf : Option Obj → Option AV
  | some (.arr _ _ t xs) => some (.d (.slice t) xs)
  | _ => none
theorem arrAt_t (id : Nat) : Heap.arrAt h (.t id) = arrOf (h.get id) := by
  simp only [Heap.arrAt, arrOf]
  cases h.get id with
  | none => rfl
  | some o => cases o <;> rfl
theorem arrOf_arr (m d : Bool) (t : Ty) (xs : List t.Den) : arrOf (some (.arr m d t xs)) = some (.d (.slice t) xs) := rfl
def slOf : Option AV → Option AV
  | some (.d (.slice t') ys) => some (.d (.slice t') ys)
  | _ => none
def arrIn (i off : Nat) : Option Obj → Option AV
  | some (.arr _ true t xs) => if i < xs.length then slOf (flat t (xs.getD i t.zero))[off]? else none
  | _ => none
theorem arrAt_n (id i off : Nat) : Heap.arrAt h (.n id i off) = arrIn i off (h.get id) := by
  simp only [Heap.arrAt, arrIn]
  cases h.get id with
  | none => rfl
  | some o =>
    cases o with
    | arr m d t xs => cases d <;> rfl
    | _ => rfl
theorem arrIn_arr (i off : Nat) (m : Bool) (t : Ty) (xs : List t.Den) : arrIn i off (some (.arr m true t xs)) = if i < xs.length then slOf (flat t (xs.getD i t.zero))[off]? else none := rfl
theorem slOf_d (t : Ty) (xs : List t.Den) : slOf (some (.d (.slice t) xs)) = some (.d (.slice t) xs) := rfl
def deepOf : Option Obj → Bool
  | some (.arr _ d _ _) => d
  | _ => false
theorem deepAt_t (id : Nat) : Heap.deepAt h (.t id) = deepOf (h.get id) := by
  simp only [Heap.deepAt, deepOf]
  cases h.get id with
  | none => rfl
  | some o => cases o <;> rfl
theorem deepAt_n (id i off : Nat) : Heap.deepAt h (.n id i off) = false := rfl
theorem deepOf_arr (m d : Bool) (t : Ty) (xs : List t.Den) : deepOf (some (.arr m d t xs)) = d := rfl
def setOf (h : Heap) (id : Nat) (t : Ty) (ys : List t.Den) : Option Obj → Option Heap
  | some (.arr m d t' _) => if t' = t then some (h.put id (.arr m d t ys)) else none
  | _ => none
theorem setAt_t (t : Ty) (ys : List t.Den) (id : Nat) : Heap.setAt h t ys (.t id) = setOf h id t ys (h.get id) := by
  simp only [Heap.setAt, setOf]
  cases h.get id with
  | none => rfl
  | some o => cases o <;> rfl
theorem setOf_arr (id : Nat) (t : Ty) (ys : List t.Den) (m d : Bool) (t' : Ty) (xs : List t'.Den) : setOf h id t ys (some (.arr m d t' xs)) = if t' = t then some (h.put id (.arr m d t ys)) else none := rfl
def setIn2 (h : Heap) (id i off : Nat) (t : Ty) (ys : List t.Den) : Option Obj → Option Heap
  | some o => (o.setIn i off t ys).map fun o' => h.put id o'
  | none => none
theorem setAt_n (t : Ty) (ys : List t.Den) (id i off : Nat) : Heap.setAt h t ys (.n id i off) = setIn2 h id i off t ys (h.get id) := by
  simp only [Heap.setAt, setIn2]
  cases h.get id <;> rfl
/-- The value, if nothing is left. -/
def oneOnly {α : Type} (y : α × List AV) : Option α := if y.2.isEmpty = true then some y.1 else none
theorem oneOnly_mk {α : Type} (y : α) (r : List AV) : oneOnly (y, r) = if r.isEmpty = true then some y else none := rfl
def setIn4 (h : Heap) (id : Nat) (m : Bool) (t : Ty) (xs : List t.Den) (i : Nat) (y : t.Den) : Heap := h.put id (.arr m true t (xs.set i y))
theorem setIn4_eq (id : Nat) (m : Bool) (t : Ty) (xs : List t.Den) (i : Nat) (y : t.Den) : setIn4 h id m t xs i y = h.put id (.arr m true t (xs.set i y)) := rfl
theorem setIn2_arr (id i off : Nat) (t' : Ty) (ys : List t'.Den) (m : Bool) (t : Ty) (xs : List t.Den) : setIn2 h id i off t' ys (some (.arr m true t xs)) = if i < xs.length then ((unflat t ((flat t (xs.getD i t.zero)).set off (.d (.slice t') ys))).bind oneOnly).map (setIn4 h id m t xs i) else none := by
  simp only [setIn2, Obj.setIn]
  split
  · cases unflat t ((flat t (xs.getD i t.zero)).set off (.d (.slice t') ys)) with
    | none => rfl
    | some y => simp only [Option.bind_some, oneOnly]; split <;> rfl
  · rfl
def elemVia (d : Bool) (id i : Nat) (cs : List AV) : List AV := if d = true then deepCells id i 0 cs else cs
theorem elemCells_eq (p : Pl) (i : Nat) (t : Ty) (x : t.Den) : elemCells h p i t x = elemVia (h.deepAt p) p.id i (flat t x) := rfl
theorem elemVia_true (id i : Nat) (cs : List AV) : elemVia true id i cs = deepCells id i 0 cs := rfl
theorem elemVia_false (id i : Nat) (cs : List AV) : elemVia false id i cs = cs := rfl
theorem deepCells_nil (id i j : Nat) : deepCells id i j [] = [] := rfl
theorem deepCells_slice (id i j : Nat) (t : Ty) (x : List t.Den) (cs : List AV) : deepCells id i j (.d (.slice t) x :: cs) = .os (.n id i j) :: deepCells id i (j + 1) cs := rfl
theorem deepCells_int (id i j : Nat) (k : IntKind) (x : Int) (cs : List AV) : deepCells id i j (.d (.int k) x :: cs) = .d (.int k) x :: deepCells id i (j + 1) cs := rfl
theorem deepCells_bool (id i j : Nat) (x : Bool) (cs : List AV) : deepCells id i j (.d .bool x :: cs) = .d .bool x :: deepCells id i (j + 1) cs := rfl
theorem deepCells_str (id i j : Nat) (x : ByteArray) (cs : List AV) : deepCells id i j (.d .str x :: cs) = .d .str x :: deepCells id i (j + 1) cs := rfl
theorem deepCells_err (id i j : Nat) (x : Bool) (cs : List AV) : deepCells id i j (.d .err x :: cs) = .d .err x :: deepCells id i (j + 1) cs := rfl
theorem pid_t (i : Nat) : Pl.id (.t i) = i := rfl
theorem pid_n (i j k : Nat) : Pl.id (.n i j k) = i := rfl
theorem pin_t (i : Nat) : Pl.isIn (.t i) = false := rfl
theorem pin_n (i j k : Nat) : Pl.isIn (.n i j k) = true := rfl
theorem lenAV_d (t : Ty) (xs : List t.Den) : lenAV (.d (.slice t) xs) = some (List.length xs) := rfl
theorem sizeAV_d (t : Ty) (xs : List t.Den) : sizeAV (.d (.slice t) xs) = some t.size := rfl
theorem cutO_d (a n : Nat) (t : Ty) (xs : List t.Den) : cutO a n (.d (.slice t) xs) = some (.d (.slice t) ((List.drop a xs).take n)) := rfl
theorem elO_d (i off : Nat) (t : Ty) (xs : List t.Den) : elO i off (.d (.slice t) xs) = some (.rp ((flat t (List.getD xs i t.zero)).drop off)) := rfl

/-! addresses -/
def iaOs (tes : Nat) (p : Pl) (i : Int) : AV → Option AV
  | .d (.slice t) xs => if tes = t.size then if 0 ≤ i ∧ i < List.length xs then some (.el p i.toNat 0) else none else none
  | _ => none
def iaSub (tes : Nat) (p : Pl) (a n : Nat) (i : Int) : AV → Option AV
  | .d (.slice t) _ => if tes = t.size then if 0 ≤ i ∧ i < n then some (.el p (a + i.toNat) 0) else none else none
  | _ => none
def iaVia (h : Heap) (i : Int) (tes : Nat) : AV → Option AV
  | .d (.slice t) xs => if tes = t.size then if 0 ≤ i ∧ i < List.length xs then some (.rp (flat t (List.getD xs i.toNat t.zero))) else none else none
  | .os p => (h.arrAt p).bind (iaOs tes p i)
  | .sub p a n => (h.arrAt p).bind (iaSub tes p a n i)
  | _ => none
def iaEl (h : Heap) (x : AV) (i : Int) (te : TI) : Option AV := iaVia h i te.size x
theorem iaEl_mk (x : AV) (i : Int) (td : TD) (n m : Nat) : iaEl h x i ⟨td, n, m⟩ = iaVia h i n x := rfl
def iaArr (x : AV) (n : Nat) (i : Int) (te : TI) : Option AV := if 0 ≤ i ∧ i < n ∧ 1 < n then match x with
        | .rp vs => some (.rp (vs.drop (i.toNat * te.size)))
        | .op id off => some (.op id (off + i.toNat * te.size))
        | _ => none
      else none
theorem iaArr_rp (vs : List AV) (n : Nat) (i : Int) (td : TD) (a b : Nat) : iaArr (.rp vs) n i ⟨td, a, b⟩ = if 0 ≤ i ∧ i < n ∧ 1 < n then some (.rp (vs.drop (i.toNat * a))) else none := rfl
theorem iaArr_op (id off : Nat) (n : Nat) (i : Int) (td : TD) (a b : Nat) : iaArr (.op id off) n i ⟨td, a, b⟩ = if 0 ≤ i ∧ i < n ∧ 1 < n then some (.op id (off + i.toNat * a)) else none := rfl
def iaTI (E : Env) (h : Heap) (x : AV) (i : Int) (ti : TI) : Option AV := match ti.desc with
  | .slice e => (E.tab e).bind (iaEl h x i)
  | .arr n e => (E.tab e).bind (iaArr x n i)
  | _ => none
theorem indexAddr_eq (T : Nat) (x : AV) (i : Int) : indexAddr E h T x i = (E.tab T).bind (iaTI E h x i) := by
  unfold indexAddr
  congr 1; funext ti
  unfold iaTI
  cases ti.desc with
  | slice e =>
    simp only
    congr 1; funext te
    unfold iaEl iaVia
    cases x with
    | d t xs => cases t <;> rfl
    | os p =>
      simp only
      congr 1; funext v
      unfold iaOs
      cases v with
      | d t xs => cases t <;> rfl
      | _ => rfl
    | sub p a n =>
      simp only
      congr 1; funext v
      unfold iaSub
      cases v with
      | d t xs => cases t <;> rfl
      | _ => rfl
    | _ => rfl
  | arr n e => rfl
  | _ => rfl
theorem iaTI_slice (x : AV) (i : Int) (e n m : Nat) : iaTI E h x i ⟨.slice e, n, m⟩ = (E.tab e).bind (iaEl h x i) := rfl
theorem iaTI_arr (x : AV) (i : Int) (l e n m : Nat) : iaTI E h x i ⟨.arr l e, n, m⟩ = (E.tab e).bind (iaArr x l i) := rfl
theorem iaVia_d (i : Int) (tes : Nat) (t : Ty) (xs : List t.Den) : iaVia h i tes (.d (.slice t) xs) = if tes = t.size then if 0 ≤ i ∧ i < List.length xs then some (.rp (flat t (List.getD xs i.toNat t.zero))) else none else none := rfl
theorem iaVia_os (i : Int) (tes : Nat) (p : Pl) : iaVia h i tes (.os p) = (h.arrAt p).bind (iaOs tes p i) := rfl
theorem iaVia_sub (i : Int) (tes : Nat) (p : Pl) (a n : Nat) : iaVia h i tes (.sub p a n) = (h.arrAt p).bind (iaSub tes p a n i) := rfl
theorem iaOs_d (i : Int) (tes : Nat) (p : Pl) (t : Ty) (xs : List t.Den) : iaOs tes p i (.d (.slice t) xs) = if tes = t.size then if 0 ≤ i ∧ i < List.length xs then some (.el p i.toNat 0) else none else none := rfl
theorem iaSub_d (i : Int) (tes : Nat) (p : Pl) (a n : Nat) (t : Ty) (xs : List t.Den) : iaSub tes p a n i (.d (.slice t) xs) = if tes = t.size then if 0 ≤ i ∧ i < n then some (.el p (a + i.toNat) 0) else none else none := rfl
def faF (x : AV) (o : Nat) (tf : TI) : Option AV := if tf.size = 0 then none else match x with
      | .rp vs => some (.rp (vs.drop o))
      | .op id off => some (.op id (off + o))
      | .el p i off => some (.el p i (off + o))
      | _ => none
theorem faF_rp (vs : List AV) (o : Nat) (td : TD) (n m : Nat) : faF (.rp vs) o ⟨td, n, m⟩ = if n = 0 then none else some (.rp (vs.drop o)) := rfl
theorem faF_op (id off : Nat) (o : Nat) (td : TD) (n m : Nat) : faF (.op id off) o ⟨td, n, m⟩ = if n = 0 then none else some (.op id (off + o)) := rfl
theorem faF_el (p : Pl) (i off : Nat) (o : Nat) (td : TD) (n m : Nat) : faF (.el p i off) o ⟨td, n, m⟩ = if n = 0 then none else some (.el p i (off + o)) := rfl
def faP (E : Env) (x : AV) (f : Nat × Nat) : Option AV := (E.tab f.2).bind (faF x f.1)
theorem faP_mk (x : AV) (o T : Nat) : faP E x (o, T) = (E.tab T).bind (faF x o) := rfl
def faTI (E : Env) (x : AV) (j : Nat) (ti : TI) : Option AV := match ti.desc with
  | .struct fs => (fs[j]?).bind (faP E x)
  | _ => none
theorem fieldAddr_eq (T : Nat) (x : AV) (j : Nat) : fieldAddr E T x j = (E.tab T).bind (faTI E x j) := rfl
theorem faTI_struct (x : AV) (j : Nat) (fs : List (Nat × Nat)) (n m : Nat) : faTI E x j ⟨.struct fs, n, m⟩ = (fs[j]?).bind (faP E x) := rfl
def fiF (x : AV) (o : Nat) (tf : TI) : Option AV := match x with
      | .agg vs => if o + tf.size ≤ vs.length then mkV tf ((vs.drop o).take tf.size) else none
      | _ => none
theorem fiF_agg (vs : List AV) (o : Nat) (td : TD) (n m : Nat) : fiF (.agg vs) o ⟨td, n, m⟩ = if o + n ≤ vs.length then mkV ⟨td, n, m⟩ ((vs.drop o).take n) else none := rfl
def fiP (E : Env) (x : AV) (f : Nat × Nat) : Option AV := (E.tab f.2).bind (fiF x f.1)
theorem fiP_mk (x : AV) (o T : Nat) : fiP E x (o, T) = (E.tab T).bind (fiF x o) := rfl
def fiTI (E : Env) (x : AV) (j : Nat) (ti : TI) : Option AV := match ti.desc with
  | .struct fs => (fs[j]?).bind (fiP E x)
  | _ => none
theorem field_eq (T : Nat) (x : AV) (j : Nat) : field E T x j = (E.tab T).bind (fiTI E x j) := rfl
theorem fiTI_struct (x : AV) (j : Nat) (fs : List (Nat × Nat)) (n m : Nat) : fiTI E x j ⟨.struct fs, n, m⟩ = (fs[j]?).bind (fiP E x) := rfl
def mkOne : List AV → Option AV
  | [v] => some v
  | _ => none
theorem mkV_eq (td : TD) (n m : Nat) (vs : List AV) : mkV ⟨td, n, m⟩ vs = if TI.isAgg ⟨td, n, m⟩ = true then some (.agg vs) else mkOne vs := rfl
theorem mkOne_one (v : AV) : mkOne [v] = some v := rfl
def loadCells (ti : TI) (vs : List AV) : Option AV := if ti.size ≤ vs.length then mkV ti (vs.take ti.size) else none
theorem loadCells_eq (td : TD) (n m : Nat) (vs : List AV) : loadCells ⟨td, n, m⟩ vs = if n ≤ vs.length then mkV ⟨td, n, m⟩ (vs.take n) else none := rfl
def loadTI (h : Heap) (p : AV) (ti : TI) : Option AV := (cellsAt h p).bind (loadCells ti)
theorem loadTI_eq (p : AV) (td : TD) (n m : Nat) : loadTI h p ⟨td, n, m⟩ = (cellsAt h p).bind (loadCells ⟨td, n, m⟩) := rfl
theorem loadAt_eq (T : Nat) (p : AV) : loadAt E h T p = (E.tab T).bind (loadTI h p) := rfl

/-! stores -/
def boxPut (s : Slots) (h : Heap) (id off n : Nat) (cs : List AV) : Option Obj → Option St
  | some (.box vs) => if off + n ≤ vs.length ∧ cs.all AV.isOne = true then some ⟨s, h.put id (.box (vs.take off ++ cs ++ vs.drop (off + n)))⟩ else none
  | _ => none
theorem boxPut_box (id off n : Nat) (cs vs : List AV) : boxPut s h id off n cs (some (.box vs)) = if off + n ≤ vs.length ∧ cs.all AV.isOne = true then some ⟨s, h.put id (.box (vs.take off ++ cs ++ vs.drop (off + n)))⟩ else none := rfl
def storeVia (s : Slots) (h : Heap) (n : Nat) (cs : List AV) : AV → Option St
  | .op id off => boxPut s h id off n cs (h.get id)
  | .el p i off => storeEl ⟨s, h⟩ p i off cs
  | _ => none
theorem storeVia_op (n : Nat) (cs : List AV) (id off : Nat) : storeVia s h n cs (.op id off) = boxPut s h id off n cs (h.get id) := rfl
theorem storeVia_el (n : Nat) (cs : List AV) (p : Pl) (i off : Nat) : storeVia s h n cs (.el p i off) = storeEl ⟨s, h⟩ p i off cs := rfl
def storeTI (s : Slots) (h : Heap) (p v : AV) (ti : TI) : Option St := if v.cells.length ≠ ti.size ∨ v.isUndef = true then none else storeVia s h ti.size v.cells p
theorem storeTI_eq (p v : AV) (td : TD) (n m : Nat) : storeTI s h p v ⟨td, n, m⟩ = if v.cells.length ≠ n ∨ v.isUndef = true then none else storeVia s h n v.cells p := rfl
theorem storeAt_eq (T : Nat) (p v : AV) : storeAt E ⟨s, h⟩ T p v = (E.tab T).bind (storeTI s h p v) := by
  unfold storeAt
  congr 1
def flatSet (s : Slots) (h : Heap) (p : Pl) (i : Nat) (t : Ty) (xs : List t.Den) (y : t.Den) : Option St := (h.setAt t (List.set xs i y) p).map (St.mk s)
theorem flatSet_eq (p : Pl) (i : Nat) (t : Ty) (xs : List t.Den) (y : t.Den) : flatSet s h p i t xs y = (h.setAt t (List.set xs i y) p).map (St.mk s) := rfl
theorem storeFlat_eq (p : Pl) (i off : Nat) (cs : List AV) (t : Ty) (xs : List t.Den) : storeFlat ⟨s, h⟩ p i off cs (.d (.slice t) xs) = (spliceEl t (List.getD xs i t.zero) off cs).bind (flatSet s h p i t xs) := rfl
theorem spliceEl_eq (t : Ty) (x : t.Den) (off : Nat) (cs : List AV) : spliceEl t x off cs = if off + cs.length ≤ t.size then (unflat t ((flat t x).take off ++ cs ++ (flat t x).drop (off + cs.length))).bind oneOnly else none := rfl
def storeFr (id i off : Nat) (r : List AV × St) : Option St := (r.2.heap.arrAt (.t id)).bind (storeFlat r.2 (.t id) i off r.1)
theorem storeFr_mk (id i off : Nat) (cs : List AV) : storeFr id i off (cs, ⟨s, h⟩) = (h.arrAt (.t id)).bind (storeFlat ⟨s, h⟩ (.t id) i off cs) := rfl
def orElse2 (f : Option St) : Option St → Option St
  | some s => some s
  | none => f
theorem orElse2_some (f : Option St) (st : St) : orElse2 f (some st) = some st := rfl
def storeTo (s : Slots) (h : Heap) (id i off : Nat) (cs : List AV) : Option Obj → Option St
  | some (.arr m true t xs) => match storeDeep ⟨s, h⟩ id t m xs i off cs with
      | some s => some s
      | none => (freezes 4 (St.freezeIn ⟨s, h⟩ id) (AV.mapRs (frozenInF h id) cs)).bind (storeFr id i off)
  | _ => (freezes 4 ⟨s, h⟩ cs).bind (storeFr id i off)
theorem storeEl_t (id i off : Nat) (cs : List AV) : storeEl ⟨s, h⟩ (.t id) i off cs = storeTo s h id i off cs (h.get id) := by
  unfold storeEl storeTo
  simp only
  cases h.get id with
  | none => rfl
  | some o =>
    cases o with
    | arr m d t xs => cases d <;> rfl
    | _ => rfl
theorem storeEl_n (id j o i off : Nat) (cs : List AV) : storeEl ⟨s, h⟩ (.n id j o) i off cs = if AV.owneds cs = true ∨ AV.sharess cs = true then none else (h.arrAt (.n id j o)).bind (storeFlat ⟨s, h⟩ (.n id j o) i off cs) := rfl
theorem storeTo_flat (id i off : Nat) (cs : List AV) (m : Bool) (t : Ty) (xs : List t.Den) : storeTo s h id i off cs (some (.arr m false t xs)) = (freezes 4 ⟨s, h⟩ cs).bind (storeFr id i off) := rfl
def deepThen (s : Slots) (h : Heap) (id i off : Nat) (cs : List AV) : Option St → Option St
  | some s => some s
  | none => (freezes 4 (St.freezeIn ⟨s, h⟩ id) (AV.mapRs (frozenInF h id) cs)).bind (storeFr id i off)
theorem storeTo_deep (id i off : Nat) (cs : List AV) (m : Bool) (t : Ty) (xs : List t.Den) : storeTo s h id i off cs (some (.arr m true t xs)) = deepThen s h id i off cs (storeDeep ⟨s, h⟩ id t m xs i off cs) := by
  unfold storeTo deepThen
  rfl
theorem deepThen_some (id i off : Nat) (cs : List AV) (st : St) : deepThen s h id i off cs (some st) = some st := rfl
theorem deepThen_none (id i off : Nat) (cs : List AV) : deepThen s h id i off cs none = (freezes 4 (St.freezeIn ⟨s, h⟩ id) (AV.mapRs (frozenInF h id) cs)).bind (storeFr id i off) := rfl
def deep3 (s : Slots) (h : Heap) (id : Nat) (t : Ty) (m : Bool) (xs : List t.Den) (i : Nat) (gone : List Nat) (y : t.Den) : Option St := some ⟨Slots.mapR (killInF id) (St.gone ⟨s, h⟩ gone).tmps, (Heap.mapR (killInF id) (St.gone ⟨s, h⟩ gone).heap).put id (.arr m true t (xs.set i y))⟩
theorem deep3_eq (id : Nat) (t : Ty) (m : Bool) (xs : List t.Den) (i : Nat) (gone : List Nat) (y : t.Den) : deep3 s h id t m xs i gone y = some ⟨Slots.mapR (killInF id) (St.gone ⟨s, h⟩ gone).tmps, (Heap.mapR (killInF id) (St.gone ⟨s, h⟩ gone).heap).put id (.arr m true t (xs.set i y))⟩ := rfl
def deep2 (s : Slots) (h : Heap) (id : Nat) (t : Ty) (m : Bool) (xs : List t.Den) (i off : Nat) (r : List AV × List Nat) : Option St := if nodupN (id :: r.2) = true then (spliceEl t (xs.getD i t.zero) off r.1).bind (deep3 s h id t m xs i r.2) else none
theorem deep2_mk (id : Nat) (t : Ty) (m : Bool) (xs : List t.Den) (i off : Nat) (cs : List AV) (gone : List Nat) : deep2 s h id t m xs i off (cs, gone) = if nodupN (id :: gone) = true then (spliceEl t (xs.getD i t.zero) off cs).bind (deep3 s h id t m xs i gone) else none := rfl
theorem storeDeep_eq (id : Nat) (t : Ty) (m : Bool) (xs : List t.Den) (i off : Nat) (cs : List AV) : storeDeep ⟨s, h⟩ id t m xs i off cs = (absorbs h cs).bind (deep2 s h id t m xs i off) := rfl
theorem absorbs_nil : absorbs h [] = some ([], []) := rfl
def abs3 (r : AV × List Nat) (q : List AV × List Nat) : List AV × List Nat := (r.1 :: q.1, r.2 ++ q.2)
theorem abs3_mk (v : AV) (i : List Nat) (vs : List AV) (is_ : List Nat) : abs3 (v, i) (vs, is_) = (v :: vs, i ++ is_) := rfl
def abs2 (h : Heap) (vs : List AV) (r : AV × List Nat) : Option (List AV × List Nat) := (absorbs h vs).map (abs3 r)
theorem abs2_eq (vs : List AV) (v : AV) (i : List Nat) : abs2 h vs (v, i) = (absorbs h vs).map (abs3 (v, i)) := rfl
theorem absorbs_cons (v : AV) (vs : List AV) : absorbs h (v :: vs) = (absorb1 h v).bind (abs2 h vs) := rfl
def absO (id : Nat) : Option Obj → Option (AV × List Nat)
  | some (.arr _ false t xs) => some (.d (.slice t) xs, [id])
  | _ => none
theorem absorb1_os (id : Nat) : absorb1 h (.os (.t id)) = absO id (h.get id) := by
  simp only [absorb1, absO]
  cases h.get id with
  | none => rfl
  | some o =>
    cases o with
    | arr m d t xs => cases d <;> rfl
    | _ => rfl
theorem absO_arr (id : Nat) (m : Bool) (t : Ty) (xs : List t.Den) : absO id (some (.arr m false t xs)) = some (.d (.slice t) xs, [id]) := rfl
theorem absO_deep (id : Nat) (m : Bool) (t : Ty) (xs : List t.Den) : absO id (some (.arr m true t xs)) = none := rfl
theorem absorb1_in (id i o : Nat) : absorb1 h (.os (.n id i o)) = none := rfl
theorem absorb1_sub (p : Pl) (i o : Nat) : absorb1 h (.sub p i o) = none := rfl
theorem absorb1_d (t : Ty) (x : t.Den) : absorb1 h (.d t x) = if t.refs = true then none else some (.d t x, []) := rfl
theorem absorb1_nil : absorb1 h .nilS = some (.nilS, []) := rfl
theorem absorb1_emp : absorb1 h .empS = some (.empS, []) := rfl
theorem gone_nil : St.gone ⟨s, h⟩ [] = ⟨s, h⟩ := rfl
theorem gone_cons (id : Nat) (ids : List Nat) : St.gone ⟨s, h⟩ (id :: ids) = St.gone ⟨Slots.mapR (killF id) s, (Heap.mapR (killF id) h).put id .dead⟩ ids := rfl
/-! freezing -/
def frz (n : Nat) (s : Slots) (h : Heap) (vs : List AV) : Option Nat → Option (List AV × St)
  | none => some (vs, ⟨s, h⟩)
  | some id => match h.get id with
      | some (.arr _ _ _ _) => freezes n (St.freeze ⟨s, h⟩ id) (AV.mapRs (frozenF h id) vs)
      | _ => none
theorem freezes_succ (n : Nat) (vs : List AV) : freezes (n + 1) ⟨s, h⟩ vs = frz n s h vs (vs.findSome? AV.top) := by
  unfold freezes frz
  rfl
theorem frz_none (n : Nat) (vs : List AV) : frz n s h vs none = some (vs, ⟨s, h⟩) := rfl
def frzO (n : Nat) (s : Slots) (h : Heap) (vs : List AV) (id : Nat) : Option Obj → Option (List AV × St)
  | some (.arr _ _ _ _) => freezes n (St.freeze ⟨s, h⟩ id) (AV.mapRs (frozenF h id) vs)
  | _ => none
theorem frz_some (n : Nat) (vs : List AV) (id : Nat) : frz n s h vs (some id) = frzO n s h vs id (h.get id) := by
  unfold frz frzO; rfl
theorem frzO_arr (n : Nat) (vs : List AV) (id : Nat) (m d : Bool) (t : Ty) (xs : List t.Den) : frzO n s h vs id (some (.arr m d t xs)) = freezes n (St.freeze ⟨s, h⟩ id) (AV.mapRs (frozenF h id) vs) := rfl
theorem fst_nil : List.findSome? AV.top [] = none := rfl
theorem fst_os (p : Pl) (vs : List AV) : List.findSome? AV.top (.os p :: vs) = some p.id := rfl
theorem fst_sub (p : Pl) (a n : Nat) (vs : List AV) : List.findSome? AV.top (.sub p a n :: vs) = some p.id := rfl
theorem fst_d (t : Ty) (x : t.Den) (vs : List AV) : List.findSome? AV.top (.d t x :: vs) = List.findSome? AV.top vs := rfl
theorem fst_nilS (vs : List AV) : List.findSome? AV.top (.nilS :: vs) = List.findSome? AV.top vs := rfl
theorem fst_empS (vs : List AV) : List.findSome? AV.top (.empS :: vs) = List.findSome? AV.top vs := rfl
theorem fst_rp (us : List AV) (vs : List AV) : List.findSome? AV.top (.rp us :: vs) = List.findSome? AV.top vs := rfl
theorem fst_fn (f : Nat) (us : List AV) (vs : List AV) : List.findSome? AV.top (.fn f us :: vs) = List.findSome? AV.top vs := rfl
theorem fst_nilP (vs : List AV) : List.findSome? AV.top (.nilP :: vs) = List.findSome? AV.top vs := rfl
theorem freeze_eq (id : Nat) : St.freeze ⟨s, h⟩ id = ⟨Slots.mapR (frozenF h id) s, (Heap.mapR (frozenF h id) h).put id .dead⟩ := rfl
def frIn (s : Slots) (h : Heap) (id : Nat) : Option Obj → St
  | some (.arr m true t xs) => ⟨Slots.mapR (frozenInF h id) s, (Heap.mapR (frozenInF h id) h).put id (.arr m false t xs)⟩
  | _ => ⟨s, h⟩
theorem freezeIn_eq (id : Nat) : St.freezeIn ⟨s, h⟩ id = frIn s h id (h.get id) := by
  unfold St.freezeIn frIn
  simp only
  cases h.get id with
  | none => rfl
  | some o =>
    cases o with
    | arr m d t xs => cases d <;> rfl
    | _ => rfl
theorem frIn_deep (id : Nat) (m : Bool) (t : Ty) (xs : List t.Den) : frIn s h id (some (.arr m true t xs)) = ⟨Slots.mapR (frozenInF h id) s, (Heap.mapR (frozenInF h id) h).put id (.arr m false t xs)⟩ := rfl
theorem frIn_flat (id : Nat) (m : Bool) (t : Ty) (xs : List t.Den) : frIn s h id (some (.arr m false t xs)) = ⟨s, h⟩ := rfl
def allocVia2 (s : Slots) (h : Heap) (id : Nat) (o : Obj) : Option Obj → St
  | none => ⟨s, h.put id o⟩
  | some _ => ⟨Slots.mapR (killF id) s, (Heap.mapR (killF id) h).put id (o.mapR (killF id))⟩
theorem stAlloc_eq (id : Nat) (o : Obj) : St.alloc ⟨s, h⟩ id o = allocVia2 s h id o (h.get id) := by
  unfold St.alloc allocVia2
  cases h.get id <;> rfl
theorem allocVia2_none (id : Nat) (o : Obj) : allocVia2 s h id o none = ⟨s, h.put id o⟩ := rfl
theorem allocVia2_some (id : Nat) (o o' : Obj) : allocVia2 s h id o (some o') = ⟨Slots.mapR (killF id) s, (Heap.mapR (killF id) h).put id (o.mapR (killF id))⟩ := rfl
theorem kill_eq (id : Nat) : St.kill id ⟨s, h⟩ = ⟨Slots.mapR (killF id) s, Heap.mapR (killF id) h⟩ := rfl

/-! what leads is turned -/
section
variable (f : AV → AV)
theorem mr_os (p : Pl) : AV.mapR f (.os p) = f (.os p) := by rw [AV.mapR]
theorem mr_sub (p : Pl) (a n : Nat) : AV.mapR f (.sub p a n) = f (.sub p a n) := by rw [AV.mapR]
theorem mr_el (p : Pl) (a n : Nat) : AV.mapR f (.el p a n) = f (.el p a n) := by rw [AV.mapR]
theorem mr_op (i n : Nat) : AV.mapR f (.op i n) = f (.op i n) := by rw [AV.mapR]
theorem mr_mp (i : Nat) : AV.mapR f (.mp i) = f (.mp i) := by rw [AV.mapR]
theorem mr_rp (vs : List AV) : AV.mapR f (.rp vs) = .rp (AV.mapRs f vs) := by rw [AV.mapR]
theorem mr_agg (vs : List AV) : AV.mapR f (.agg vs) = .agg (AV.mapRs f vs) := by rw [AV.mapR]
theorem mr_tuple (vs : List AV) : AV.mapR f (.tuple vs) = .tuple (AV.mapRs f vs) := by rw [AV.mapR]
theorem mr_fn (g : Nat) (vs : List AV) : AV.mapR f (.fn g vs) = .fn g (AV.mapRs f vs) := by rw [AV.mapR]
theorem mr_undef : AV.mapR f .undef = .undef := by rw [AV.mapR]
theorem mr_skip : AV.mapR f .skip = .skip := by rw [AV.mapR]
theorem mr_d (t : Ty) (x : t.Den) : AV.mapR f (.d t x) = .d t x := by rw [AV.mapR]
theorem mr_nilS : AV.mapR f .nilS = .nilS := by rw [AV.mapR]
theorem mr_empS : AV.mapR f .empS = .empS := by rw [AV.mapR]
theorem mr_nilF : AV.mapR f .nilF = .nilF := by rw [AV.mapR]
theorem mr_nilP : AV.mapR f .nilP = .nilP := by rw [AV.mapR]
theorem mr_nilM : AV.mapR f .nilM = .nilM := by rw [AV.mapR]
theorem mrs_nil : AV.mapRs f [] = [] := by rw [AV.mapRs]
theorem mrs_cons (v : AV) (vs : List AV) : AV.mapRs f (v :: vs) = AV.mapR f v :: AV.mapRs f vs := by rw [AV.mapRs]
theorem smr_nil : Slots.mapR f [] = [] := rfl
theorem smr_cons (i : Nat) (v : AV) (s : Slots) : Slots.mapR f ((i, v) :: s) = (i, v.mapR f) :: Slots.mapR f s := rfl
theorem hmr_nil : Heap.mapR f [] = [] := rfl
theorem hmr_cons (i : Nat) (o : Obj) (h : Heap) : Heap.mapR f ((i, o) :: h) = (i, o.mapR f) :: Heap.mapR f h := rfl
theorem omr_box (vs : List AV) : Obj.mapR f (.box vs) = .box (AV.mapRs f vs) := rfl
theorem omr_arr (m d : Bool) (t : Ty) (xs : List t.Den) : Obj.mapR f (.arr m d t xs) = .arr m d t xs := rfl
theorem omr_mp (tk tv : Ty) (kvs : List (tk.Den × tv.Den)) : Obj.mapR f (.mp tk tv kvs) = .mp tk tv kvs := rfl
theorem omr_bld (d : Bool) (T e : Nat) (b : ByteArray) : Obj.mapR f (.bld d T e b) = .bld d T e b := rfl
theorem omr_dead : Obj.mapR f .dead = .dead := rfl
end
theorem killF_os (id : Nat) (p : Pl) : killF id (.os p) = if p.id = id then .undef else .os p := rfl
theorem killF_sub (id : Nat) (p : Pl) (a n : Nat) : killF id (.sub p a n) = if p.id = id then .undef else .sub p a n := rfl
theorem killF_el (id : Nat) (p : Pl) (a n : Nat) : killF id (.el p a n) = if p.id = id then .undef else .el p a n := rfl
theorem killF_op (id i a : Nat) : killF id (.op i a) = if i = id then .undef else .op i a := rfl
theorem killF_mp (id i : Nat) : killF id (.mp i) = if i = id then .undef else .mp i := rfl
theorem killInF_os (id : Nat) (p : Pl) : killInF id (.os p) = if p.isIn = true ∧ p.id = id then .undef else .os p := rfl
theorem killInF_sub (id : Nat) (p : Pl) (a n : Nat) : killInF id (.sub p a n) = if p.isIn = true ∧ p.id = id then .undef else .sub p a n := rfl
theorem killInF_el (id : Nat) (p : Pl) (a n : Nat) : killInF id (.el p a n) = if p.isIn = true ∧ p.id = id then .undef else .el p a n := rfl
theorem killInF_op (id i a : Nat) : killInF id (.op i a) = .op i a := rfl
theorem killInF_mp (id i : Nat) : killInF id (.mp i) = .mp i := rfl
theorem frozenF_os (id : Nat) (p : Pl) : frozenF h id (.os p) = if p.id = id then (h.arrAt p).getD .undef else .os p := rfl
theorem frozenF_sub (id : Nat) (p : Pl) (a n : Nat) : frozenF h id (.sub p a n) = if p.id = id then cutAV a n ((h.arrAt p).getD .undef) else .sub p a n := rfl
theorem frozenF_el (id : Nat) (p : Pl) (a n : Nat) : frozenF h id (.el p a n) = if p.id = id then .undef else .el p a n := rfl
theorem frozenF_op (id i a : Nat) : frozenF h id (.op i a) = if i = id then .undef else .op i a := rfl
theorem frozenF_mp (id i : Nat) : frozenF h id (.mp i) = if i = id then .undef else .mp i := rfl
theorem frznInF_os (id : Nat) (p : Pl) : frozenInF h id (.os p) = if p.isIn = true ∧ p.id = id then (h.arrAt p).getD .undef else .os p := rfl
theorem frznInF_sub (id : Nat) (p : Pl) (a n : Nat) : frozenInF h id (.sub p a n) = if p.isIn = true ∧ p.id = id then cutAV a n ((h.arrAt p).getD .undef) else .sub p a n := rfl
theorem frznInF_el (id : Nat) (p : Pl) (a n : Nat) : frozenInF h id (.el p a n) = if p.isIn = true ∧ p.id = id then .undef else .el p a n := rfl
theorem frznInF_op (id i a : Nat) : frozenInF h id (.op i a) = .op i a := rfl
theorem frznInF_mp (id i : Nat) : frozenInF h id (.mp i) = .mp i := rfl
theorem cutAV_d (a n : Nat) (t : Ty) (xs : List t.Den) : cutAV a n (.d (.slice t) xs) = .d (.slice t) ((List.drop a xs).take n) := rfl
theorem lostF_os (ids ins : List Nat) (p : Pl) : lostF ids ins (.os p) = if ids.contains p.id = true ∨ (p.isIn = true ∧ ins.contains p.id = true) then .undef else .os p := rfl
theorem lostF_sub (ids ins : List Nat) (p : Pl) (a n : Nat) : lostF ids ins (.sub p a n) = if ids.contains p.id = true ∨ (p.isIn = true ∧ ins.contains p.id = true) then .undef else .sub p a n := rfl
theorem lostF_el (ids ins : List Nat) (p : Pl) (a n : Nat) : lostF ids ins (.el p a n) = if ids.contains p.id = true ∨ (p.isIn = true ∧ ins.contains p.id = true) then .undef else .el p a n := rfl
theorem lostF_op (ids ins : List Nat) (i a : Nat) : lostF ids ins (.op i a) = if ids.contains i = true then .undef else .op i a := rfl
theorem lostF_mp (ids ins : List Nat) (i : Nat) : lostF ids ins (.mp i) = if ids.contains i = true then .undef else .mp i := rfl
theorem lost_id : ∀ v : AV, lostF [] [] v = v := fun v => by
  cases v <;> simp [lostF]
theorem shrinkF_os (id a n : Nat) (p : Pl) : shrinkF id a n (.os p) = if p.id = id then .undef else .os p := rfl
theorem shrinkF_sub (id a n : Nat) (p : Pl) (a' n' : Nat) : shrinkF id a n (.sub p a' n') = if p.id = id then (if p.isIn = false ∧ a' = a ∧ n' = n then .os (.t id) else .undef) else .sub p a' n' := rfl
theorem shrinkF_el (id a n : Nat) (p : Pl) (i o : Nat) : shrinkF id a n (.el p i o) = if p.id = id then .undef else .el p i o := rfl
theorem shrinkF_op (id a n : Nat) (i o : Nat) : shrinkF id a n (.op i o) = if i = id then .undef else .op i o := rfl
mutual
theorem mapR_idF {f : AV → AV} (hf : ∀ v, f v = v) : ∀ v : AV, AV.mapR f v = v
  | .os _ | .sub _ _ _ | .el _ _ _ | .op _ _ | .mp _ => by simp only [AV.mapR, hf]
  | .rp vs | .agg vs | .tuple vs | .fn _ vs => by simp only [AV.mapR, mapRs_idF hf vs]
  | .undef | .skip | .d _ _ | .nilS | .empS | .nilF | .nilP | .nilM => by simp only [AV.mapR]
theorem mapRs_idF {f : AV → AV} (hf : ∀ v, f v = v) : ∀ vs : List AV, AV.mapRs f vs = vs
  | [] => by simp only [AV.mapRs]
  | v :: vs => by simp only [AV.mapRs, mapR_idF hf v, mapRs_idF hf vs]
end
theorem smr_lost0 (s : Slots) : Slots.mapR (lostF [] []) s = s := by
  induction s with
  | nil => rfl
  | cons x s ih => obtain ⟨i, v⟩ := x; simp only [Slots.mapR, mapR_idF lost_id, ih]
theorem hmr_lost0 (h : Heap) : Heap.mapR (lostF [] []) h = h := by
  induction h with
  | nil => rfl
  | cons x h ih =>
    obtain ⟨i, o⟩ := x
    simp only [Heap.mapR, ih]
    cases o <;> simp only [Obj.mapR, mapRs_idF lost_id]
theorem cells_agg (vs : List AV) : AV.cells (.agg vs) = vs := rfl
theorem cells_d (t : Ty) (x : t.Den) : AV.cells (.d t x) = [.d t x] := rfl
theorem cells_os (i : Pl) : AV.cells (.os i) = [.os i] := rfl
theorem cells_sub (i : Pl) (n m : Nat) : AV.cells (.sub i n m) = [.sub i n m] := rfl
theorem cells_nilS : AV.cells .nilS = [.nilS] := rfl
theorem cells_empS : AV.cells .empS = [.empS] := rfl
theorem cells_fn (f : Nat) (vs : List AV) : AV.cells (.fn f vs) = [.fn f vs] := rfl
theorem cells_op (i n : Nat) : AV.cells (.op i n) = [.op i n] := rfl
theorem cells_rp (vs : List AV) : AV.cells (.rp vs) = [.rp vs] := rfl
theorem cells_el (i : Pl) (j n : Nat) : AV.cells (.el i j n) = [.el i j n] := rfl
theorem und_agg (vs : List AV) : AV.isUndef (.agg vs) = false := rfl
theorem und_d (t : Ty) (x : t.Den) : AV.isUndef (.d t x) = false := rfl
theorem und_os (i : Pl) : AV.isUndef (.os i) = false := rfl
theorem und_sub (i : Pl) (n m : Nat) : AV.isUndef (.sub i n m) = false := rfl
theorem und_nilS : AV.isUndef .nilS = false := rfl
theorem und_empS : AV.isUndef .empS = false := rfl
theorem und_fn (f : Nat) (vs : List AV) : AV.isUndef (.fn f vs) = false := rfl
theorem und_op (i n : Nat) : AV.isUndef (.op i n) = false := rfl
theorem und_rp (vs : List AV) : AV.isUndef (.rp vs) = false := rfl
theorem und_el (i : Pl) (j n : Nat) : AV.isUndef (.el i j n) = false := rfl
theorem cells_nilP : AV.cells .nilP = [.nilP] := rfl
theorem cells_nilF : AV.cells .nilF = [.nilF] := rfl
theorem cells_mp (i : Nat) : AV.cells (.mp i) = [.mp i] := rfl
theorem cells_nilM : AV.cells .nilM = [.nilM] := rfl
theorem und_nilP : AV.isUndef .nilP = false := rfl
theorem und_nilF : AV.isUndef .nilF = false := rfl
theorem und_mp (i : Nat) : AV.isUndef (.mp i) = false := rfl
theorem und_nilM : AV.isUndef .nilM = false := rfl
end
end Go.Q
