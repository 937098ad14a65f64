/- An abstract interpreter of the translated code over plain Lean values: definitions. -/
import Derived.WalkKit
import Derived.KernelRfl
import Derived.Orders
namespace Go.PI
open Go

/-- Types of plain data. -/
inductive Ty where
  | int (k : IntKind)
  | bool
  | str
  | err
  | slice (t : Ty)
  | ptr (t : Ty)
  | nil
  | cons (a b : Ty)
  | agg (l : Ty)
  deriving DecidableEq

@[reducible] def Ty.Den : Ty → Type
  | .int _ => Int
  | .bool => Bool
  | .str => ByteArray
  | .err => Bool
  | .slice t => List t.Den
  | .ptr t => t.Den
  | .nil => Unit
  | .cons a b => a.Den × b.Den
  | .agg l => l.Den

/-- How many cells. -/
def Ty.size : Ty → Nat
  | .nil => 0
  | .cons a b => a.size + b.size
  | .agg l => l.size
  | _ => 1

def Ty.zero : (t : Ty) → t.Den
  | .int _ => (0 : Int)
  | .bool => false
  | .str => ByteArray.empty
  | .err => false
  | .slice _ => []
  | .ptr t => t.zero
  | .nil => ()
  | .cons a b => (a.zero, b.zero)
  | .agg l => l.zero

/-- Abstract values: plain data, and what leads to the activation's own memory. -/
inductive AV where
  | undef
  | skip
  | d (t : Ty) (x : t.Den)
  | nilS
  | empS
  | nilF
  | nilP
  | os (id : Nat)
  | sub (id a n : Nat)
  | el (id i off : Nat)
  | op (id off : Nat)
  | rp (vs : List AV)
  | agg (vs : List AV)
  | tuple (vs : List AV)
  | fn (f : Nat) (caps : List AV)
  | own (e : Nat) (t : Ty) (xs : List t.Den)

/-- The activation's own objects. -/
inductive Obj where
  | arr (e : Nat) (t : Ty) (xs : List t.Den)
  | box (T : Nat) (vs : List AV)
  | dead

abbrev Heap := List (Nat × Obj)

def Heap.get : Heap → Nat → Option Obj
  | [], _ => none
  | (i, o) :: h, j => if i = j then some o else Heap.get h j

/-- Replace in place, or put at the end. -/
def Heap.put : Heap → Nat → Obj → Heap
  | [], j, o => [(j, o)]
  | (i, o') :: h, j, o => if i = j then (i, o) :: h else (i, o') :: Heap.put h j o

abbrev Slots := List (Nat × AV)
/-- The slots that are known, by their numbers in order. -/
def Slots.get : Slots → Nat → AV
  | [], _ => .undef
  | (i, v) :: s, j => if i = j then v else Slots.get s j
def Slots.set : Slots → Nat → AV → Slots
  | [], j, v => [(j, v)]
  | (i, u) :: s, j, v => if i = j then (j, v) :: s else if j < i then (j, v) :: (i, u) :: s else (i, u) :: Slots.set s j v
def Slots.drop : Slots → Nat → Slots
  | [], _ => []
  | (i, u) :: s, j => if i = j then Slots.drop s j else (i, u) :: Slots.drop s j

structure St where
  tmps : Slots
  heap : Heap

def St.get (st : St) (t : Nat) : AV := st.tmps.get t
def St.set (st : St) (t : Nat) (v : AV) : St := ⟨st.tmps.set t v, st.heap⟩
def St.put (st : St) (dst : Option Nat) (v : AV) : St := match dst with | some t => st.set t v | none => st

/-- The cells of plain data, each as a value. -/
def flat : (t : Ty) → t.Den → List AV
  | .nil, _ => []
  | .cons a b, x => flat a x.1 ++ flat b x.2
  | .agg l, x => flat l x
  | .int k, x => [.d (.int k) x]
  | .bool, x => [.d .bool x]
  | .str, x => [.d .str x]
  | .err, x => [.d .err x]
  | .slice t, x => [.d (.slice t) x]
  | .ptr t, x => [.rp (flat t x)]

def castDen {a b : Ty} (h : a = b) (x : a.Den) : b.Den := h ▸ x

/-- One cell's plain data. -/
def asDen (t : Ty) : AV → Option t.Den
  | .d t' x => if h : t' = t then some (castDen h x) else none
  | _ => none

/-- A slice's plain data. -/
def asList (t : Ty) : AV → Option (List t.Den)
  | .nilS => some []
  | .empS => some []
  | v => asDen (.slice t) v

/-- Plain data out of its cells, and the cells behind it. -/
def unflat : (t : Ty) → List AV → Option (t.Den × List AV)
  | .nil, vs => some ((), vs)
  | .cons a b, vs => (unflat a vs).bind fun r => (unflat b r.2).map fun s => ((r.1, s.1), s.2)
  | .agg l, vs => unflat l vs
  | .int k, v :: vs => (asDen (.int k) v).map fun x => (x, vs)
  | .bool, v :: vs => (asDen .bool v).map fun x => (x, vs)
  | .str, v :: vs => (asDen .str v).map fun x => (x, vs)
  | .err, v :: vs => (asDen .err v).map fun x => (x, vs)
  | .slice t, v :: vs => (asList t v).map fun x => (x, vs)
  | .ptr t, v :: vs => match v with
    | .rp us => (unflat t us).map fun x => (x.1, vs)
    | _ => none
  | _, [] => none

/-- Is it one cell's value? -/
def AV.isOne : AV → Bool
  | .undef | .skip | .agg _ | .tuple _ | .own _ _ _ => false
  | _ => true

def AV.isUndef : AV → Bool
  | .undef => true
  | _ => false

/-- The cells of a value. -/
def AV.cells : AV → List AV
  | .agg vs => vs
  | v => [v]

/-- Types, as far as the interpreter asks. -/
inductive TD where
  | bool | int (k : IntKind) | str | err
  | slice (e : Nat)
  | struct (fs : List (Nat × Nat))
  | arr (n e : Nat)
  | ptr (e : Nat)
  | func
  | map (k e : Nat)
  | other
def lookT {α : Type} : List (Nat × α) → Nat → Option α
  | [], _ => none
  | (i, x) :: l, j => if i = j then some x else lookT l j

structure TI where
  desc : TD
  size : Nat
  bytes : Nat

def TI.isAgg (ti : TI) : Bool := match ti.desc with
  | .struct _ | .arr _ _ => true
  | _ => false

structure Env where
  tab : Nat → Option TI
  ty : Nat → Option Ty
  call : Nat → List AV → Option AV

/-- A value of a type out of its cells. -/
def mkV (ti : TI) (vs : List AV) : Option AV :=
  if ti.isAgg then some (.agg vs) else match vs with
    | [v] => some v
    | _ => none

/-- The zero value's cells. -/
def zeros (E : Env) : Nat → Nat → Option (List AV)
  | 0, _ => none
  | n + 1, T => (E.tab T).bind fun ti => match ti.desc with
    | .bool => some [.d .bool false]
    | .int k => some [.d (.int k) (0 : Int)]
    | .str => some [.d .str ByteArray.empty]
    | .err => some [.d .err false]
    | .slice _ => some [.nilS]
    | .ptr _ => some [.nilP]
    | .func => some [.nilF]
    | .struct fs => fs.foldlM (fun acc f => (zeros E n f.2).map (acc ++ ·)) []
    | .arr m e => (zeros E n e).map fun z => (List.replicate m z).flatten
    | _ => none

def ofConst1 : Value → AV
  | .bool b => .d .bool b
  | .int k n => .d (.int k) n
  | .string s => .d .str s
  | .slice none 0 0 => .nilS
  | .nilIface => .d .err false
  | .nilFunc => .nilF
  | .pointer none => .nilP
  | _ => .undef
def ofConst : Value → AV
  | .agg cs => .agg (cs.toList.map ofConst1)
  | v => ofConst1 v

def eval (st : St) : Operand → AV
  | .tmp t => st.get t
  | .const v => ofConst v
  | .func f => .fn f []
  | .global _ => .undef

/-! ### References to an object go, or are turned into plain data -/
mutual
def AV.subst (id : Nat) (r : AV → AV) : AV → AV
  | .os i => if i = id then r (.os i) else .os i
  | .sub i a n => if i = id then r (.sub i a n) else .sub i a n
  | .el i a n => if i = id then r (.el i a n) else .el i a n
  | .op i a => if i = id then r (.op i a) else .op i a
  | .rp vs => .rp (AV.substs id r vs)
  | .agg vs => .agg (AV.substs id r vs)
  | .tuple vs => .tuple (AV.substs id r vs)
  | .fn f vs => .fn f (AV.substs id r vs)
  | v => v
def AV.substs (id : Nat) (r : AV → AV) : List AV → List AV
  | [] => []
  | v :: vs => AV.subst id r v :: AV.substs id r vs
end

def Obj.subst (id : Nat) (r : AV → AV) : Obj → Obj
  | .box T vs => .box T (AV.substs id r vs)
  | o => o
def Heap.subst (id : Nat) (r : AV → AV) : Heap → Heap
  | [] => []
  | (i, o) :: h => (i, o.subst id r) :: Heap.subst id r h
def Slots.subst (id : Nat) (r : AV → AV) : Slots → Slots
  | [] => []
  | (i, v) :: s => (i, v.subst id r) :: Slots.subst id r s
def St.subst (id : Nat) (r : AV → AV) (st : St) : St := ⟨Slots.subst id r st.tmps, Heap.subst id r st.heap⟩
def St.kill (id : Nat) (st : St) : St := st.subst id (fun _ => .undef)

/-- A new object at a number; what else led to that number leads there no more. -/
def St.alloc (st : St) (id : Nat) (o : Obj) : St :=
  match st.heap.get id with
  | none => { st with heap := st.heap.put id o }
  | some _ => let s := st.kill id; { s with heap := s.heap.put id (o.subst id fun _ => .undef) }

/-- An own array becomes plain data for good. -/
def frozenAs (t : Ty) (xs : List t.Den) : AV → AV
  | .os _ => .d (.slice t) xs
  | .sub _ a n => .d (.slice t) ((xs.drop a).take n)
  | _ => .undef

/-- A value that is to be an element: own arrays in it are frozen. -/
def St.freeze1 (st : St) : AV → Option (AV × St)
  | .os id => match st.heap.get id with
    | some (.arr _ t xs) => let s := st.subst id (frozenAs t xs); some (.d (.slice t) xs, { s with heap := s.heap.put id .dead })
    | _ => none
  | .sub id a n => match st.heap.get id with
    | some (.arr _ t xs) => let s := st.subst id (frozenAs t xs); some (.d (.slice t) ((xs.drop a).take n), { s with heap := s.heap.put id .dead })
    | _ => none
  | v => some (v, st)
def St.freezes (st : St) : List AV → Option (List AV × St)
  | [] => some ([], st)
  | v :: vs => (st.freeze1 v).bind fun r => (r.2.freezes vs).map fun s => (r.1 :: s.1, s.2)

/-! ### What is handed to a call: plain data and what leads to it -/
def mapO {α β : Type} (f : α → Option β) : List α → Option (List β)
  | [] => some []
  | x :: xs => (f x).bind fun y => (mapO f xs).map fun ys => y :: ys

def argOf (h : Heap) : Nat → AV → Option AV
  | 0, _ => none
  | _ + 1, .undef => none
  | _ + 1, .own .. => none
  | _ + 1, .tuple _ => none
  | _ + 1, .os id => match h.get id with
    | some (.arr _ t xs) => some (.d (.slice t) xs)
    | _ => none
  | _ + 1, .sub id a n => match h.get id with
    | some (.arr _ t xs) => some (.d (.slice t) ((xs.drop a).take n))
    | _ => none
  | _ + 1, .el id i off => match h.get id with
    | some (.arr _ t xs) => some (.rp ((flat t (xs.getD i t.zero)).drop off))
    | _ => none
  | m + 1, .op id off => match h.get id with
    | some (.box _ vs) => (mapO (argOf h m) (vs.drop off)).map .rp
    | _ => none
  | m + 1, .rp vs => (mapO (argOf h m) vs).map .rp
  | m + 1, .agg vs => (mapO (argOf h m) vs).map .agg
  | m + 1, .fn f vs => (mapO (argOf h m) vs).map (.fn f)
  | _ + 1, v => some v
def args (h : Heap) (vs : List AV) : Option (List AV) := mapO (argOf h 8) vs

/-- Does plain data lead to memory? -/
def Ty.refs : Ty → Bool
  | .slice _ => true
  | .ptr _ => true
  | .cons a b => a.refs || b.refs
  | .agg l => l.refs
  | _ => false
mutual
/-- Does a value lead to memory that may be shared? -/
def AV.shares : AV → Bool
  | .d t _ => t.refs
  | .own _ t _ => t.refs
  | .rp _ => true
  | .agg vs => AV.sharess vs
  | .tuple vs => AV.sharess vs
  | .fn _ vs => AV.sharess vs
  | _ => false
def AV.sharess : List AV → Bool
  | [] => false
  | v :: vs => AV.shares v || AV.sharess vs
end
mutual
/-- Does a value lead to the activation's own objects? -/
def AV.owned : AV → Bool
  | .os _ => true
  | .sub _ _ _ => true
  | .el _ _ _ => true
  | .op _ _ => true
  | .rp vs => AV.owneds vs
  | .agg vs => AV.owneds vs
  | .tuple vs => AV.owneds vs
  | .fn _ vs => AV.owneds vs
  | _ => false
def AV.owneds : List AV → Bool
  | [] => false
  | v :: vs => AV.owned v || AV.owneds vs
end

/-- What a call made becomes the activation's own: the value, the state, the next number. -/
def adopt1 (st : St) (id : Nat) : AV → AV × St × Nat
  | .own e t xs => (.os id, st.alloc id (.arr e t xs), id + 1)
  | v => (v, st, id)
def adopts (st : St) (id : Nat) : List AV → List AV × St × Nat
  | [] => ([], st, id)
  | .agg us :: vs =>
    let r := adopt0 st id us
    let s := adopts r.2.1 r.2.2 vs
    (.agg r.1 :: s.1, s.2)
  | v :: vs =>
    let r := adopt1 st id v
    let s := adopts r.2.1 r.2.2 vs
    (r.1 :: s.1, s.2)
where
  adopt0 (st : St) (id : Nat) : List AV → List AV × St × Nat
    | [] => ([], st, id)
    | v :: vs =>
      let r := adopt1 st id v
      let s := adopt0 r.2.1 r.2.2 vs
      (r.1 :: s.1, s.2)
def adopt (st : St) (id : Nat) : AV → AV × St
  | .tuple vs => let r := adopts st id vs; (.tuple r.1, r.2.1)
  | v => let r := adopts st id [v]; (r.1.headD .undef, r.2.1)

/-! ### Operations -/
def intBits (op : BinOp) (k : IntKind) (x y : Int) : Option Int :=
  let a := BitVec.ofInt k.bits x
  let b := BitVec.ofInt k.bits y
  match op with
  | .and => some (k.wrap (a &&& b).toNat)
  | .or => some (k.wrap (a ||| b).toNat)
  | .xor => some (k.wrap (a ^^^ b).toNat)
  | .andNot => some (k.wrap (a &&& ~~~b).toNat)
  | _ => none

def binInt (op : BinOp) (k : IntKind) (a b : Int) : Option AV :=
  match op with
  | .add => some (.d (.int k) (k.wrap (a + b)))
  | .sub => some (.d (.int k) (k.wrap (a - b)))
  | .mul => some (.d (.int k) (k.wrap (a * b)))
  | .quo => if b = 0 then none else some (.d (.int k) (k.wrap (a.tdiv b)))
  | .rem => if b = 0 then none else some (.d (.int k) (a.tmod b))
  | .shl => if b < 0 then none else some (.d (.int k) (k.wrap (a * 2 ^ (min b.toNat k.bits))))
  | .shr => if b < 0 then none else some (.d (.int k) (a.fdiv (2 ^ (min b.toNat k.bits))))
  | .and | .or | .xor | .andNot => (intBits op k a b).map fun x => .d (.int k) x
  | .eql => some (.d .bool (a == b))
  | .neq => some (.d .bool (a != b))
  | .lss => some (.d .bool (decide (a < b)))
  | .leq => some (.d .bool (decide (a ≤ b)))
  | .gtr => some (.d .bool (decide (a > b)))
  | .geq => some (.d .bool (decide (a ≥ b)))

def binStr (op : BinOp) (a b : ByteArray) : Option AV :=
  let eq := a.toList == b.toList
  let lt := Op.bytesLess a.toList b.toList
  match op with
  | .add => if ((a.size + b.size : Nat) : Int) > IntKind.i64.max then none else some (.d .str (a ++ b))
  | .eql => some (.d .bool eq)
  | .neq => some (.d .bool !eq)
  | .lss => some (.d .bool lt)
  | .leq => some (.d .bool (lt || eq))
  | .gtr => some (.d .bool !(lt || eq))
  | .geq => some (.d .bool !lt)
  | _ => none

def binOp (op : BinOp) : AV → AV → Option AV
  | .d (.int k) a, .d (.int k') b =>
    match op with
    | .shl | .shr => binInt op k a b
    | _ => if k = k' then binInt op k a b else none
  | .d .str a, .d .str b => binStr op a b
  | .d .bool a, .d .bool b => match op with
    | .eql => some (.d .bool (a == b))
    | .neq => some (.d .bool (!(a == b)))
    | _ => none
  | _, _ => none

def unOp (op : UnOp) : AV → Option AV
  | .d .bool a => match op with
    | .not => some (.d .bool (!a))
    | _ => none
  | .d (.int k) a => match op with
    | .neg => some (.d (.int k) (k.wrap (0 - a)))
    | .xor => (intBits .xor k (if k.signed then -1 else k.max) a).map fun x => .d (.int k) x
    | _ => none
  | _ => none

/-- Cells of an address. -/
def cellsAt (h : Heap) : AV → Option (List AV)
  | .rp vs => some vs
  | .op id off => match h.get id with
    | some (.box _ vs) => some (vs.drop off)
    | _ => none
  | .el id i off => match h.get id with
    | some (.arr _ t xs) => some ((flat t (xs.getD i t.zero)).drop off)
    | _ => none
  | _ => none
def loadAt (E : Env) (h : Heap) (T : Nat) (p : AV) : Option AV :=
  (E.tab T).bind fun ti => (cellsAt h p).bind fun vs => if ti.size ≤ vs.length then mkV ti (vs.take ti.size) else none

def storeAt (E : Env) (st : St) (T : Nat) (p v : AV) : Option St :=
  (E.tab T).bind fun ti => if v.cells.length ≠ ti.size ∨ v.isUndef = true then none else match p with
    | .op id off => match st.heap.get id with
      | some (.box B vs) => if off + ti.size ≤ vs.length ∧ v.cells.all AV.isOne = true then some { st with heap := st.heap.put id (.box B (vs.take off ++ v.cells ++ vs.drop (off + ti.size))) } else none
      | _ => none
    | .el id i off => (st.freezes v.cells).bind fun r => match r.2.heap.get id with
      | some (.arr e t xs) => if off + ti.size ≤ t.size then
          (unflat t ((flat t (xs.getD i t.zero)).take off ++ r.1 ++ (flat t (xs.getD i t.zero)).drop (off + ti.size))).bind fun y =>
            some { r.2 with heap := r.2.heap.put id (.arr e t (xs.set i y.1)) }
        else none
      | _ => none
    | _ => none

def indexAddr (E : Env) (h : Heap) (T : Nat) (x : AV) (i : Int) : Option AV :=
  (E.tab T).bind fun ti => match ti.desc with
    | .slice e => (E.tab e).bind fun te => match x with
      | .d (.slice t) xs => if te.size = t.size then if 0 ≤ i ∧ i < List.length xs then some (.rp (flat t (List.getD xs i.toNat t.zero))) else none else none
      | .os id => match h.get id with
        | some (.arr _ t xs) => if te.size = t.size then if 0 ≤ i ∧ i < xs.length then some (.el id i.toNat 0) else none else none
        | _ => none
      | .sub id a n => match h.get id with
        | some (.arr _ t _) => if te.size = t.size then if 0 ≤ i ∧ i < n then some (.el id (a + i.toNat) 0) else none else none
        | _ => none
      | _ => none
    | .arr n e => (E.tab e).bind fun te => if 0 ≤ i ∧ i < n ∧ 1 < n then match x with
        | .rp vs => some (.rp (vs.drop (i.toNat * te.size)))
        | .op id off => some (.op id (off + i.toNat * te.size))
        | _ => none
      else none
    | _ => none

def fieldAddr (E : Env) (T : Nat) (x : AV) (j : Nat) : Option AV :=
  (E.tab T).bind fun ti => match ti.desc with
    | .struct fs => (fs[j]?).bind fun f => (E.tab f.2).bind fun tf => if tf.size = 0 then none else match x with
      | .rp vs => some (.rp (vs.drop f.1))
      | .op id off => some (.op id (off + f.1))
      | .el id i off => some (.el id i (off + f.1))
      | _ => none
    | _ => none

def field (E : Env) (T : Nat) (x : AV) (j : Nat) : Option AV :=
  (E.tab T).bind fun ti => match ti.desc with
    | .struct fs => (fs[j]?).bind fun f => (E.tab f.2).bind fun tf => match x with
      | .agg vs => if f.1 + tf.size ≤ vs.length then mkV tf ((vs.drop f.1).take tf.size) else none
      | _ => none
    | _ => none

def fillAt (cells : List AV) (off : Nat) (vs : List AV) : Option (List AV) :=
  if off + vs.length ≤ cells.length then some (cells.take off ++ vs ++ cells.drop (off + vs.length)) else none

def build (E : Env) (T : Nat) (parts : List (Nat × AV)) : Option AV :=
  (E.tab T).bind fun ti => match ti.desc with
    | .struct fs => (zeros E 8 T).bind fun z => (parts.foldlM (fun acc p => (fs[p.1]?).bind fun f => (E.tab f.2).bind fun tf => if p.2.isUndef = false ∧ p.2.cells.length = tf.size then fillAt acc f.1 p.2.cells else none) z).map .agg
    | .arr _ e => (E.tab e).bind fun te => (zeros E 8 T).bind fun z => (parts.foldlM (fun acc p => if p.2.isUndef = false ∧ p.2.cells.length = te.size then fillAt acc (p.1 * te.size) p.2.cells else none) z).map .agg
    | _ => none

/-- Elements out of values, in order. -/
def elems (t : Ty) : List AV → Option (List t.Den)
  | [] => some []
  | v :: vs => if v.isUndef then none else (unflat t v.cells).bind fun x => if x.2.isEmpty then (elems t vs).map fun xs => x.1 :: xs else none

def inOrder : Nat → List (Nat × AV) → Bool
  | _, [] => true
  | k, p :: ps => p.1 == k && inOrder (k + 1) ps

def St.freezeV (st : St) : AV → Option (AV × St)
  | .agg vs => (st.freezes vs).map fun r => (.agg r.1, r.2)
  | v => st.freeze1 v
def St.freezeVs (st : St) : List AV → Option (List AV × St)
  | [] => some ([], st)
  | v :: vs => (st.freezeV v).bind fun r => (r.2.freezeVs vs).map fun s => (r.1 :: s.1, s.2)

def buildSlice (E : Env) (st : St) (id T len : Nat) (parts : List (Nat × AV)) : Option (AV × St) :=
  (E.tab T).bind fun ti => match ti.desc with
    | .slice e => (E.ty e).bind fun t => if len = parts.length ∧ inOrder 0 parts = true ∧ len * t.size ≤ 16777216 ∧ t.size ≠ 0 ∧ (parts.map (·.2)).all (fun v => v.cells.length == t.size) = true then
        (st.freezeVs (parts.map (·.2))).bind fun r => (elems t r.1).bind fun xs => some (.os id, r.2.alloc id (.arr e t xs))
      else none
    | _ => none

def makeSlice (E : Env) (st : St) (id T : Nat) (len cap : Int) : Option (AV × St) :=
  (E.tab T).bind fun ti => match ti.desc with
    | .slice e => (E.tab e).bind fun te => (E.ty e).bind fun t => if 0 ≤ len ∧ len ≤ cap ∧ te.bytes * cap ≤ 140737488355328 ∧ cap ≤ 9223372036854775807 then some (.os id, st.alloc id (.arr e t (List.replicate len.toNat t.zero))) else none
    | _ => none

/-- The bounds of a cut. -/
def bounds (n : Nat) (lo hi : Option Int) : Option (Nat × Nat) :=
  let l := lo.getD 0
  let h := hi.getD n
  if 0 ≤ l ∧ l ≤ h ∧ h ≤ n then some (l.toNat, h.toNat) else none

def cut {α : Type} (xs : List α) (lo hi : Option Int) : Option (List α) :=
  match lo, hi with
  | none, none => some xs
  | some l, none => if 0 ≤ l ∧ l ≤ xs.length then some (xs.drop l.toNat) else none
  | none, some h => if 0 ≤ h ∧ h ≤ xs.length then some (xs.take h.toNat) else none
  | some l, some h => if 0 ≤ l ∧ l ≤ h ∧ h ≤ xs.length then some ((xs.drop l.toNat).take (h.toNat - l.toNat)) else none

def sliceOp (h : Heap) (sz : Nat) (x : AV) (lo hi mx : Option Int) : Option AV :=
  match mx with
  | some m => match lo, hi with   -- xs[:0:0]
    | none, some l => if m = 0 ∧ l = 0 then match x with
      | .d (.slice _) _ => some .empS
      | .os _ => some .empS
      | .sub _ _ _ => some .empS
      | .nilS => some .empS
      | .empS => some .empS
      | _ => none
      else none
    | _, _ => none
  | none => match x with
    | .d (.slice t) xs => if sz = t.size then (cut xs lo hi).map fun ys => .d (.slice t) ys else none
    | .os id => match h.get id with
      | some (.arr _ t xs) => if sz = t.size then (bounds xs.length lo hi).map fun b => .sub id b.1 (b.2 - b.1) else none
      | _ => none
    | .sub id a n => match h.get id with
      | some (.arr _ t _) => if sz = t.size then (bounds n lo hi).map fun b => .sub id (a + b.1) (b.2 - b.1) else none
      | _ => none
    | .nilS => (bounds 0 lo hi).map fun _ => .empS
    | .empS => (bounds 0 lo hi).map fun _ => .empS
    | _ => none

def sliceT (E : Env) (h : Heap) (T : Nat) (x : AV) (lo hi mx : Option Int) : Option AV :=
  (E.tab T).bind fun ti => match ti.desc with
    | .str => match mx, x with
      | none, .d .str s => (bounds s.size lo hi).map fun b => .d .str (s.extract b.1 b.2)
      | _, _ => none
    | .slice e => (E.tab e).bind fun te => sliceOp h te.size x lo hi mx
    | _ => none

def lenOf (h : Heap) : AV → Option Int
  | .d (.slice _) xs => some xs.length
  | .os id => match h.get id with
    | some (.arr _ _ xs) => some xs.length
    | _ => none
  | .sub _ _ n => some n
  | .nilS => some 0
  | .empS => some 0
  | _ => none

def lenT (E : Env) (T : Nat) (h : Heap) (x : AV) : Option Int :=
  (E.tab T).bind fun ti => match ti.desc with
    | .str => match x with
      | .d .str s => some s.size
      | _ => none
    | .slice _ => lenOf h x
    | .arr n _ => some n
    | _ => none

/-- What a slice holds, as plain data of a type. -/
def listOf (h : Heap) (t : Ty) : AV → Option (List t.Den)
  | .os id => match h.get id with
    | some (.arr _ t' xs) => asDen (.slice t) (.d (.slice t') xs)
    | _ => none
  | .sub id a n => match h.get id with
    | some (.arr _ t' xs) => asDen (.slice t) (.d (.slice t') ((xs.drop a).take n))
    | _ => none
  | v => asList t v

def append (E : Env) (st : St) (id T T2 : Nat) (s y : AV) : Option (AV × St) :=
  (E.tab T).bind fun ti => (E.tab T2).bind fun ti2 => match ti.desc, ti2.desc with
    | .slice e, .slice _ => (E.tab e).bind fun te => (E.ty e).bind fun t => (listOf st.heap t y).bind fun ys => match s with
      | .nilS => if ys.length * te.bytes ≤ 140737488355328 ∧ ys.length ≤ 9223372036854775807 then some (.os id, st.alloc id (.arr e t ys)) else none
      | .empS => if ys.length * te.bytes ≤ 140737488355328 ∧ ys.length ≤ 9223372036854775807 then some (.os id, st.alloc id (.arr e t ys)) else none
      | .os i => match st.heap.get i with
        | some (.arr e' t' xs) => if e' = e then (asDen (.slice t) (.d (.slice t') xs)).bind fun xs =>
            if (List.length xs + ys.length) * te.bytes ≤ 140737488355328 ∧ List.length xs + ys.length ≤ 9223372036854775807 then some (.os i, ⟨(st.kill i).tmps, (st.kill i).heap.put i (.arr e t (xs ++ ys))⟩) else none
          else none
        | _ => none
      | .sub i a n => match st.heap.get i with
        | some (.arr e' t' xs) => if e' = e then (asDen (.slice t) (.d (.slice t') ((xs.drop a).take n))).bind fun xs =>
            if (List.length xs + ys.length) * te.bytes ≤ 140737488355328 ∧ List.length xs + ys.length ≤ 9223372036854775807 then some (.os i, ⟨(st.kill i).tmps, (st.kill i).heap.put i (.arr e t (xs ++ ys))⟩) else none
          else none
        | _ => none
      | _ => none
    | _, _ => none

def optInt (st : St) : Option Operand → Option (Option Int)
  | none => some none
  | some x => match eval st x with
    | .d (.int _) n => some (some n)
    | _ => none

/-- Operations that only yield a value. -/
def pureOp : Op → Bool
  | .move _ | .assign _ | .pick _ _ _ | .build _ _ | .load _ _ | .nilCheck _ | .binOp _ _ _ _ _ | .unOp _ _ _ | .convert _ _ _ | .makeFunc _ _ _ | .slice _ _ _ _ _ | .fieldAddr _ _ _ | .field _ _ _ | .indexAddr _ _ _ | .index _ _ _ | .extract _ _ => true
  | .call c => match c.callee with
    | .builtin .len => true
    | _ => false
  | _ => false

/-- Operations that leave as it was what was there. -/
def keepsOp : Op → Bool
  | .alloc _ | .box _ _ => true
  | .call c => match c.callee with
    | .value _ => true
    | _ => pureOp (.call c)
  | o => pureOp o

def strAt (b : ByteArray) (i : Nat) : Int := if h : i < b.size then ((b[i]'h).toNat : Int) else 0

def index (E : Env) (T : Nat) (x : AV) (n : Int) : Option AV :=
  (E.tab T).bind fun ti => match ti.desc, x with
    | .str, .d .str b => if 0 ≤ n ∧ n < b.size then some (.d (.int .u8) (strAt b n.toNat)) else none
    | .arr m e, .agg vs => (E.tab e).bind fun te => if 0 ≤ n ∧ n < m ∧ n.toNat * te.size + te.size ≤ vs.length then mkV te ((vs.drop (n.toNat * te.size)).take te.size) else none
    | _, _ => none

def binOpT (E : Env) (op : BinOp) (T : Nat) (x y : AV) : Option AV := match x with
  | .d .bool a => (E.tab T).bind fun ti => match ti.desc with
    | .bool => binOp op (.d .bool a) y
    | _ => none
  | x => binOp op x y

def convertT (E : Env) (src dst : Nat) (x : AV) : Option AV :=
  (E.tab src).bind fun _ => (E.tab dst).bind fun td => match td.desc, x with
    | .int k, .d (.int _) n => some (.d (.int k) (k.wrap n))
    | .str, .d .str b => some (.d .str b)
    | _, _ => none

/-- What an operation yields that does nothing else. -/
def exVal (E : Env) (st : St) : Op → Option AV
  | .move x => some (eval st x)
  | .assign x => some (eval st x)
  | .pick c x y => match eval st c with
    | .d .bool b => some (if b = true then eval st x else eval st y)
    | _ => none
  | .build T parts => build E T (parts.toList.map fun p => (p.1, eval st p.2))
  | .load T p => loadAt E st.heap T (eval st p)
  | .nilCheck x => match eval st x with
    | .rp vs => some (.rp vs)
    | .op i off => some (.op i off)
    | .el i j off => some (.el i j off)
    | _ => none
  | .binOp op T x y _ => binOpT E op T (eval st x) (eval st y)
  | .unOp op _ x => unOp op (eval st x)
  | .convert src dst x => convertT E src dst (eval st x)
  | .makeFunc (.func f) first caps => if first.toList.isEmpty then some (.fn f (caps.toList.map (eval st))) else none
  | .slice T x lo hi mx => (optInt st lo).bind fun l => (optInt st hi).bind fun h => (optInt st mx).bind fun m => sliceT E st.heap T (eval st x) l h m
  | .fieldAddr T x j => fieldAddr E T (eval st x) j
  | .field T x j => field E T (eval st x) j
  | .indexAddr T x i => match eval st i with
    | .d (.int _) n => indexAddr E st.heap T (eval st x) n
    | _ => none
  | .index T x i => match eval st i with
    | .d (.int _) n => index E T (eval st x) n
    | _ => none
  | .extract x j => match eval st x with
    | .tuple vs => vs[j]?
    | _ => none
  | .call c => match c.callee with
    | .builtin .len => match c.args.toList, c.argTypes.toList with
      | [x], [T] => (lenT E T st.heap (eval st x)).map fun n => .d (.int .i64) n
      | _, _ => none
    | _ => none
  | _ => none

/-- What an operation does that writes: a value, and the state. -/
def exWrite (E : Env) (st : St) (id : Nat) : Op → Option (AV × St)
  | .box T x => (E.tab T).bind fun ti => if (eval st x).isUndef = false ∧ (eval st x).cells.length = ti.size then some (.op id 0, st.alloc id (.box T (eval st x).cells)) else none
  | .alloc T => (E.tab T).bind fun _ => (zeros E 8 T).bind fun z => some (.op id 0, st.alloc id (.box T z))
  | .buildSlice T len parts => buildSlice E st id T len (parts.toList.map fun p => (p.1, eval st p.2))
  | .store T p x => (storeAt E st T (eval st p) (eval st x)).map fun s => (.undef, s)
  | .makeSlice T l c => match eval st l, eval st c with
    | .d (.int _) n, .d (.int _) m => makeSlice E st id T n m
    | _, _ => none
  | .call c => match c.callee with
    | .builtin .append => match c.args.toList, c.argTypes.toList with
      | [x, y], [T, T2] => append E st id T T2 (eval st x) (eval st y)
      | _, _ => none
    | .value f => match eval st f with
      | .fn g caps => (args st.heap (c.args.toList.map (eval st) ++ caps)).bind fun us => (E.call g us).bind fun r =>
        if (AV.shares r && AV.owneds (c.args.toList.map (eval st) ++ caps)) = true then none else some (adopt st id r)
      | _ => none
    | _ => none
  | _ => none

/-- What one operation does. -/
def exOp (E : Env) (o : Oper) (st : St) : Option St :=
  if pureOp o.op = true then (exVal E st o.op).map (st.put o.dst) else (exWrite E st (8 * o.dst.getD 1000) o.op).map fun r => r.2.put o.dst r.1

/-- The slot by which an operation is guarded. -/
def guardSlot (ops : List Oper) (j : Nat) : Option Nat := (ops[j]?).bind (·.dst)

/-- Operations in the text's order. -/
def runOps (E : Env) (ops : List Oper) : List Oper → St → Option St
  | [], st => some st
  | o :: rest, st => match o.guard with
    | none => (exOp E o st).bind (runOps E ops rest)
    | some (j, b) => (guardSlot ops j).bind fun g => match st.get g with
      | .d .bool x => if x = b then (exOp E o (st.set g (.d .bool b))).bind (runOps E ops rest) else runOps E ops rest ((st.set g (.d .bool (!b))).put o.dst .skip)
      | .skip => runOps E ops rest (st.put o.dst .skip)
      | _ => none

inductive Ex where
  | normal
  | exit (id : Nat)
  | ret
  deriving DecidableEq

/-- Slots that are needed no more fall away. -/
def dropAll : List Nat → Slots → Slots
  | [], s => s
  | t :: ts, s => dropAll ts (s.drop t)

mutual
/-- Does a value lead to an object? -/
def AV.leads (id : Nat) : AV → Bool
  | .os i => i == id
  | .sub i _ _ => i == id
  | .el i _ _ => i == id
  | .op i _ => i == id
  | .rp vs => AV.leadss id vs
  | .agg vs => AV.leadss id vs
  | .tuple vs => AV.leadss id vs
  | .fn _ vs => AV.leadss id vs
  | _ => false
def AV.leadss (id : Nat) : List AV → Bool
  | [] => false
  | v :: vs => AV.leads id v || AV.leadss id vs
end
def Slots.leads (id : Nat) : Slots → Bool
  | [] => false
  | (_, v) :: s => v.leads id || Slots.leads id s
def Heap.leads (id : Nat) : Heap → Bool
  | [] => false
  | (_, .box _ vs) :: h => AV.leadss id vs || Heap.leads id h
  | _ :: h => Heap.leads id h
def Heap.keepIf (f : Nat → Bool) : Heap → Heap
  | [] => []
  | (i, o) :: h => if f i then (i, o) :: Heap.keepIf f h else Heap.keepIf f h
/-- Objects to which nothing leads fall away. -/
def gc1 (s : Slots) (h : Heap) : Heap := h.keepIf fun i => Slots.leads i s || Heap.leads i h
def St.gc : St → St
  | ⟨s, []⟩ => ⟨s, []⟩
  | ⟨s, x :: h⟩ => ⟨s, gc1 s (gc1 s (x :: h))⟩

/-- How many loops a piece of code holds. -/
def nLoops : Code → Nat
  | .seq a b => nLoops a + nLoops b
  | .cond _ a b => nLoops a + nLoops b
  | .block _ c => nLoops c
  | .loop c => nLoops c + 1
  | .scope c => nLoops c
  | _ => 0
/-- The body of a loop, by its number. -/
def loopIn : Code → Nat → Option Code
  | .seq a b, k => if k < nLoops a then loopIn a k else loopIn b (k - nLoops a)
  | .cond _ a b, k => if k < nLoops a then loopIn a k else loopIn b (k - nLoops a)
  | .block _ c, k => loopIn c k
  | .loop c, k => if k = 0 then some c else loopIn c (k - 1)
  | .scope c, k => loopIn c k
  | _, _ => none

/-- What is told of a function's code: the slots that fall away behind each region, and in which order the operations of a region with a draw are run. -/
structure Ann where
  drops : List (Nat × List Nat)
  ord : List (Nat × List Nat)

def orderOf (A : Ann) (id : Nat) (ops : Array Oper) (draw : Bool) : List Oper :=
  if draw = true then match lookT A.ord id with
    | some l => l.filterMap (ops.toList[·]?)
    | none => ops.toList
  else ops.toList

/-- A piece of code; its loops, numbered from k on, are told by what stands for them. -/
def prun (E : Env) (loop : Nat → St → Option (Ex × St)) (A : Ann) : Nat → Code → St → Option (Ex × St)
  | _, .skip, st => some (.normal, st)
  | _, .region id ops draw, st => (runOps E ops.toList (orderOf A id ops draw) st).map fun s => (.normal, ⟨dropAll ((lookT A.drops id).getD []) s.tmps, s.heap⟩)
  | k, .seq a b, st => (prun E loop A k a st).bind fun r => match r.1 with
    | .normal => prun E loop A (k + nLoops a) b r.2
    | _ => some r
  | k, .cond c a b, st => match eval st c with
    | .d .bool x => match c with
      | .tmp t => if x = true then prun E loop A k a ⟨st.tmps.drop t, st.heap⟩
          else prun E loop A (k + nLoops a) b ⟨st.tmps.drop t, st.heap⟩
      | _ => if x = true then prun E loop A k a st else prun E loop A (k + nLoops a) b st
    | _ => none
  | k, .block id c, st => (prun E loop A k c st).map fun r => match r.1 with
    | .exit i => if i = id then (.normal, r.2) else r
    | _ => r
  | k, .loop _, st => loop k st.gc
  | _, .exit id, st => some (.exit id, st)
  | _, .ret, st => some (.ret, st)
  | k, .scope c, st => prun E loop A k c st
  | _, .label _, st => some (.normal, st)
  | _, _, _ => none

/-- Others that may come up before it neither look at it nor write what was there. -/
def freeOk (ops : Array Oper) (listed : Array Bool) (i : Nat) : Bool :=
  match ops[i]? with
  | none => false
  | some oi => (List.range ops.size).all fun j => j == i || listed.getD j true || match ops[j]? with
      | some oj => oj.after.any (fun e => Region.binds .any e && e.on == i) || (oi.apart ops oj && keepsOp oj.op)
      | none => true

/-- In whatever order a region's operations come up, it is as if they came up in this one. -/
def drawOk (ops : Array Oper) : List Nat → Array Bool → Bool
  | [], listed => (Region.ready .any ops listed).isEmpty
  | i :: l, listed => (match ops[i]? with
    | none => false
    | some o => (pureOp o.op && (Region.ready .any ops listed).contains i && freeOk ops listed i) || Region.ready .any ops listed == [i]) && drawOk ops l (listed.setIfInBounds i true)

def dstOk (n : Nat) (o : Oper) : Bool := match o.dst with
  | some t => decide (t < n)
  | none => true

/-- What is looked at once in a function's code. -/
def codeOk (A : Ann) (n : Nat) : Code → Bool
  | .region id ops draw => ops.toList.all (dstOk n) && (!draw || (let l := (lookT A.ord id).getD (List.range ops.size)
      decide (l.length ≤ ops.size) && Region.noSelect ops && drawOk ops l (Array.replicate ops.size false)))
  | .seq a b => codeOk A n a && codeOk A n b
  | .cond _ a b => codeOk A n a && codeOk A n b
  | .block _ c => codeOk A n c
  | .loop c => codeOk A n c
  | .scope c => codeOk A n c
  | _ => true

/-! ### Functions -/
/-- A result leaves the activation: its own arrays go along. -/
def res1 (h : Heap) : AV → Option (AV × Heap)
  | .os id => match h.get id with
    | some (.arr e t xs) => some (.own e t xs, h.put id .dead)
    | _ => none
  | .sub id a n => match h.get id with
    | some (.arr _ t xs) => some (.d (.slice t) ((xs.drop a).take n), h.put id .dead)
    | _ => none
  | .d t x => some (.d t x, h)
  | .nilS => some (.nilS, h)
  | .nilP => some (.nilP, h)
  | .nilF => some (.nilF, h)
  | .rp vs => if AV.owneds vs then none else some (.rp vs, h)
  | .fn f vs => if AV.owneds vs then none else some (.fn f vs, h)
  | _ => none
def resCells (h : Heap) : List AV → Option (List AV × Heap)
  | [] => some ([], h)
  | v :: vs => (res1 h v).bind fun r => (resCells r.2 vs).map fun s => (r.1 :: s.1, s.2)
def resVal (h : Heap) : AV → Option (AV × Heap)
  | .agg vs => (resCells h vs).map fun r => (.agg r.1, r.2)
  | v => res1 h v
def resVals (h : Heap) : List AV → Option (List AV)
  | [] => some []
  | v :: vs => (resVal h v).bind fun r => (resVals r.2 vs).map fun s => r.1 :: s

def resultVar (E : Env) (st : St) : ResultVar → Option AV
  | .tmp t => some (st.get t)
  | .cell a T => loadAt E st.heap T (st.get a)

def finish (E : Env) (f : Func) (st : St) : Option AV :=
  (mapO (resultVar E st) f.results.toList).bind fun vs => (resVals st.heap vs).map fun us => match us with
    | [u] => u
    | us => .tuple us

def bind0 : Nat → List AV → Slots
  | _, [] => []
  | i, v :: vs => (i, v) :: bind0 (i + 1) vs

structure Prog where
  tab : Nat → Option TI
  ty : Nat → Option Ty
  fn : Nat → Option Func
  ann : Nat → Ann
  given : Nat → List AV → Option AV

def Prog.env (p : Prog) (call : Nat → List AV → Option AV) : Env := ⟨p.tab, p.ty, call⟩

/-- A function's body on arguments. -/
def runFn (E : Env) (loop : Nat → St → Option (Ex × St)) (A : Ann) (f : Func) (vs : List AV) : Option AV :=
  if vs.length ≤ f.ntmps then
    f.body.bind fun c => (prun E loop A 0 c ⟨bind0 0 vs, []⟩).bind fun r => match r.1 with
      | .exit _ => none
      | _ => finish E f r.2
  else none

/-- One round of a loop, and the others. -/
def runLoop (E : Env) (loop : Nat → St → Option (Ex × St)) (A : Ann) (f : Func) (k : Nat) (st : St) : Option (Ex × St) :=
  f.body.bind fun b => (loopIn b k).bind fun c => (prun E loop A (k + 1) c st).bind fun r => match r.1 with
    | .normal => loop k r.2.gc
    | _ => some r

/-- Calls and loops, so deep. -/
def sem (p : Prog) : Nat → (Nat → List AV → Option AV) × (Nat → Nat → St → Option (Ex × St))
  | 0 => (fun _ _ => none, fun _ _ _ => none)
  | n + 1 =>
    (fun f vs => match p.fn f with
      | none => p.given f vs
      | some F => runFn (p.env (sem p n).1) ((sem p n).2 f) (p.ann f) F vs,
     fun f k st => match p.fn f with
      | none => none
      | some F => runLoop (p.env (sem p n).1) ((sem p n).2 f) (p.ann f) F k st)

open Classical in
/-- What is reached at some depth. -/
noncomputable def lim {α : Type} (g : Nat → Option α) : Option α := if h : ∃ n r, g n = some r then g h.choose else none

/-- What a call hands back. -/
noncomputable def callOf (p : Prog) (f : Nat) (vs : List AV) : Option AV := lim fun n => (sem p n).1 f vs
/-- What a loop comes to. -/
noncomputable def loopOf (p : Prog) (f k : Nat) (st : St) : Option (Ex × St) := lim fun n => (sem p n).2 f k st

end Go.PI
