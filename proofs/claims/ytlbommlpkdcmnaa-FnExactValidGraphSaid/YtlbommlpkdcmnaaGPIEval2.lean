/- An abstract interpreter of the translated code: equations for values. -/
import Derived.Test.YtlbommlpkdcmnaaGPIEval
namespace Go.PI
open Go
section
variable {E : Env} {s : Slots} {h : Heap} {k k' : IntKind} {a b : Int}
theorem bt_int (op : BinOp) (T : Nat) (y : AV) : binOpT E op T (.d (.int k) a) y = binOp op (.d (.int k) a) y := rfl
theorem bt_str (op : BinOp) (T : Nat) (x : ByteArray) (y : AV) : binOpT E op T (.d .str x) y = binOp op (.d .str x) y := rfl
def boolVia (op : BinOp) (x : Bool) (y : AV) (ti : TI) : Option AV := match ti.desc with
  | .bool => binOp op (.d .bool x) y
  | _ => none
theorem bt_bool (op : BinOp) (T : Nat) (x : Bool) (y : AV) : binOpT E op T (.d .bool x) y = (E.tab T).bind (boolVia op x y) := rfl
theorem boolVia_bool (op : BinOp) (x : Bool) (y : AV) (n m : Nat) : boolVia op x y ⟨.bool, n, m⟩ = binOp op (.d .bool x) y := rfl
theorem bi_add : binOp .add (.d (.int k) a) (.d (.int k) b) = some (.d (.int k) (k.wrap (a + b))) := by simp [binOp, binInt]
theorem bi_sub : binOp .sub (.d (.int k) a) (.d (.int k) b) = some (.d (.int k) (k.wrap (a - b))) := by simp [binOp, binInt]
theorem bi_mul : binOp .mul (.d (.int k) a) (.d (.int k) b) = some (.d (.int k) (k.wrap (a * b))) := by simp [binOp, binInt]
theorem bi_quo : binOp .quo (.d (.int k) a) (.d (.int k) b) = if b = 0 then none else some (.d (.int k) (k.wrap (a.tdiv b))) := by simp [binOp, binInt]
theorem bi_rem : binOp .rem (.d (.int k) a) (.d (.int k) b) = if b = 0 then none else some (.d (.int k) (a.tmod b)) := by simp [binOp, binInt]
theorem bi_shl : binOp .shl (.d (.int k) a) (.d (.int k') b) = if b < 0 then none else some (.d (.int k) (k.wrap (a * 2 ^ (min b.toNat k.bits)))) := rfl
theorem bi_shr : binOp .shr (.d (.int k) a) (.d (.int k') b) = if b < 0 then none else some (.d (.int k) (a.fdiv (2 ^ (min b.toNat k.bits)))) := rfl
/-- Bits of two numbers. -/
def bitsOf (op : BinOp) (k : IntKind) (x y : Int) : Int := (intBits op k x y).getD 0
theorem bi_and : binOp .and (.d (.int k) a) (.d (.int k) b) = some (.d (.int k) (bitsOf .and k a b)) := by simp [binOp, binInt, intBits, bitsOf]
theorem bi_or : binOp .or (.d (.int k) a) (.d (.int k) b) = some (.d (.int k) (bitsOf .or k a b)) := by simp [binOp, binInt, intBits, bitsOf]
theorem bi_xor : binOp .xor (.d (.int k) a) (.d (.int k) b) = some (.d (.int k) (bitsOf .xor k a b)) := by simp [binOp, binInt, intBits, bitsOf]
theorem bi_andNot : binOp .andNot (.d (.int k) a) (.d (.int k) b) = some (.d (.int k) (bitsOf .andNot k a b)) := by simp [binOp, binInt, intBits, bitsOf]
theorem bi_eql : binOp .eql (.d (.int k) a) (.d (.int k) b) = some (.d .bool (decide (a = b))) := by simp [binOp, binInt]; rfl
theorem bi_neq : binOp .neq (.d (.int k) a) (.d (.int k) b) = some (.d .bool (!decide (a = b))) := by simp [binOp, binInt]; rfl
theorem bi_lss : binOp .lss (.d (.int k) a) (.d (.int k) b) = some (.d .bool (decide (a < b))) := by simp [binOp, binInt]
theorem bi_leq : binOp .leq (.d (.int k) a) (.d (.int k) b) = some (.d .bool (decide (a ≤ b))) := by simp [binOp, binInt]
theorem bi_gtr : binOp .gtr (.d (.int k) a) (.d (.int k) b) = some (.d .bool (decide (b < a))) := by simp [binOp, binInt]
theorem bi_geq : binOp .geq (.d (.int k) a) (.d (.int k) b) = some (.d .bool (decide (b ≤ a))) := by simp [binOp, binInt]
theorem bb_eql (x y : Bool) : binOp .eql (.d .bool x) (.d .bool y) = some (.d .bool (x == y)) := rfl
theorem bb_neq (x y : Bool) : binOp .neq (.d .bool x) (.d .bool y) = some (.d .bool (!(x == y))) := rfl
theorem bs_all (op : BinOp) (x y : ByteArray) : binOp op (.d .str x) (.d .str y) = binStr op x y := by cases op <;> rfl
theorem un_not (x : Bool) : unOp .not (.d .bool x) = some (.d .bool (!x)) := rfl
theorem un_neg : unOp .neg (.d (.int k) a) = some (.d (.int k) (k.wrap (0 - a))) := rfl
theorem agg_struct (fs : List (Nat × Nat)) (n m : Nat) : TI.isAgg ⟨.struct fs, n, m⟩ = true := rfl
theorem agg_arr (l e : Nat) (n m : Nat) : TI.isAgg ⟨.arr l e, n, m⟩ = true := rfl
theorem agg_int (n m : Nat) : TI.isAgg ⟨.int k, n, m⟩ = false := rfl
theorem agg_bool (n m : Nat) : TI.isAgg ⟨.bool, n, m⟩ = false := rfl
theorem agg_str (n m : Nat) : TI.isAgg ⟨.str, n, m⟩ = false := rfl
theorem agg_err (n m : Nat) : TI.isAgg ⟨.err, n, m⟩ = false := rfl
theorem agg_slice (e : Nat) (n m : Nat) : TI.isAgg ⟨.slice e, n, m⟩ = false := rfl
theorem agg_ptr (e : Nat) (n m : Nat) : TI.isAgg ⟨.ptr e, n, m⟩ = false := rfl
theorem agg_func (n m : Nat) : TI.isAgg ⟨.func, n, m⟩ = false := rfl
theorem ca_rp (vs : List AV) : cellsAt h (.rp vs) = some vs := rfl
theorem ca_op (id off : Nat) : cellsAt h (.op id off) = match h.get id with | some (.box _ vs) => some (vs.drop off) | _ => none := rfl
theorem ca_el (id i off : Nat) : cellsAt h (.el id i off) = match h.get id with | some (.arr _ t xs) => some ((flat t (xs.getD i t.zero)).drop off) | _ => none := rfl
theorem cells_agg (vs : List AV) : AV.cells (.agg vs) = vs := rfl
theorem cells_d (t : Ty) (x : t.Den) : AV.cells (.d t x) = [.d t x] := rfl
theorem cells_os (i : Nat) : AV.cells (.os i) = [.os i] := rfl
theorem cells_sub (i n m : Nat) : AV.cells (.sub i n m) = [.sub i n m] := rfl
theorem cells_nilS : AV.cells .nilS = [.nilS] := rfl
theorem cells_empS : AV.cells .empS = [.empS] := rfl
theorem cells_fn (f : Nat) (vs : List AV) : AV.cells (.fn f vs) = [.fn f vs] := rfl
theorem cells_op (i n : Nat) : AV.cells (.op i n) = [.op i n] := rfl
theorem cells_rp (vs : List AV) : AV.cells (.rp vs) = [.rp vs] := rfl
theorem cells_el (i j n : Nat) : AV.cells (.el i j n) = [.el i j n] := rfl
theorem und_agg (vs : List AV) : AV.isUndef (.agg vs) = false := rfl
theorem und_d (t : Ty) (x : t.Den) : AV.isUndef (.d t x) = false := rfl
theorem und_os (i : Nat) : AV.isUndef (.os i) = false := rfl
theorem und_sub (i n m : Nat) : AV.isUndef (.sub i n m) = false := rfl
theorem und_nilS : AV.isUndef .nilS = false := rfl
theorem und_empS : AV.isUndef .empS = false := rfl
theorem und_fn (f : Nat) (vs : List AV) : AV.isUndef (.fn f vs) = false := rfl
theorem und_op (i n : Nat) : AV.isUndef (.op i n) = false := rfl
theorem und_rp (vs : List AV) : AV.isUndef (.rp vs) = false := rfl
theorem und_el (i j n : Nat) : AV.isUndef (.el i j n) = false := rfl
end
end Go.PI
