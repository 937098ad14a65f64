/- An abstract interpreter of the translated code over plain Lean values, with memory that is lent to calls: definitions. -/
import Derived.WalkKit
import Derived.KernelRfl
import Derived.Orders
namespace Go.Q
set_option linter.unusedVariables false
set_option linter.unusedSimpArgs false
set_option linter.unusedSectionVars false
open Go

inductive Ty where
 | int (k : IntKind)
 | bool
 | str
 | err
 | slice (t : Ty)
 | ptr (t : Ty)
 | nil
 | cons (a b : Ty)
 | agg (l : Ty)
 deriving DecidableEq

@[reducible] def Ty.Den : Ty → Type
 | .int _ => Int
 | .bool => Bool
 | .str => ByteArray
 | .err => Bool
 | .slice t => List t.Den
 | .ptr t => t.Den
 | .nil => Unit
 | .cons a b => a.Den × b.Den
 | .agg l => l.Den

def Ty.size : Ty → Nat
 | .nil => 0
 | .cons a b => a.size + b.size
 | .agg l => l.size
 | _ => 1

def Ty.zero : (t : Ty) → t.Den
 | .int _ => (0 : Int)
 | .bool => false
 | .str => ByteArray.empty
 | .err => false
 | .slice _ => []
 | .ptr t => t.zero
 | .nil => ()
 | .cons a b => (a.zero, b.zero)
 | .agg l => l.zero

def Ty.refs : Ty → Bool
 | .slice _ => true
 | .ptr _ => true
 | .cons a b => a.refs || b.refs
 | .agg l => l.refs
 | _ => false

inductive Pl where
 | t (id : Nat)
 | n (id i off : Nat)
 deriving DecidableEq

def Pl.id : Pl → Nat
 | .t i => i
 | .n i _ _ => i
def Pl.isIn : Pl → Bool
 | .t _ => false
 | .n _ _ _ => true

inductive AV where
 | undef
 | skip
 | d (t : Ty) (x : t.Den)
 | nilS
 | empS
 | nilF
 | nilP
 | nilM
 | os (p : Pl)
 | sub (p : Pl) (a n : Nat)
 | el (p : Pl) (i off : Nat)
 | op (id off : Nat)
 | mp (id : Nat)
 | rp (vs : List AV)
 | agg (vs : List AV)
 | tuple (vs : List AV)
 | fn (f : Nat) (caps : List AV)

inductive Obj where
 | arr (m d : Bool) (t : Ty) (xs : List t.Den)
 | box (vs : List AV)
 | mp (tk tv : Ty) (kvs : List (tk.Den × tv.Den))
 | bld (d : Bool) (T e : Nat) (s : ByteArray)
 | dead

def Obj.live : Obj → Bool
 | .dead => false
 | _ => true
def Obj.still : Obj → Bool
 | .arr m _ _ _ => !m
 | .dead => false
 | _ => true

abbrev Heap := List (Nat × Obj)

def Heap.get : Heap → Nat → Option Obj
 | [], _ => none
 | (i, o) :: h, j => if i = j then some o else Heap.get h j

def Heap.put : Heap → Nat → Obj → Heap
 | [], j, o => [(j, o)]
 | (i, o') :: h, j, o => if i = j then (i, o) :: h else (i, o') :: Heap.put h j o

abbrev Slots := List (Nat × AV)
def Slots.get : Slots → Nat → AV
 | [], _ => .undef
 | (i, v) :: s, j => if i = j then v else Slots.get s j
def Slots.set : Slots → Nat → AV → Slots
 | [], j, v => [(j, v)]
 | (i, u) :: s, j, v => if i = j then (j, v) :: s else if j < i then (j, v) :: (i, u) :: s else (i, u) :: Slots.set s j v
def Slots.drop : Slots → Nat → Slots
 | [], _ => []
 | (i, u) :: s, j => if i = j then Slots.drop s j else (i, u) :: Slots.drop s j

structure St where
 tmps : Slots
 heap : Heap

def St.get (st : St) (t : Nat) : AV := st.tmps.get t
def St.set (st : St) (t : Nat) (v : AV) : St := ⟨st.tmps.set t v, st.heap⟩
def St.put (st : St) (dst : Option Nat) (v : AV) : St := match dst with | some t => st.set t v | none => st

mutual
def AV.mapR (f : AV → AV) : AV → AV
 | .os p => f (.os p)
 | .sub p a n => f (.sub p a n)
 | .el p i off => f (.el p i off)
 | .op id off => f (.op id off)
 | .mp id => f (.mp id)
 | .rp vs => .rp (AV.mapRs f vs)
 | .agg vs => .agg (AV.mapRs f vs)
 | .tuple vs => .tuple (AV.mapRs f vs)
 | .fn g vs => .fn g (AV.mapRs f vs)
 | .undef => .undef
 | .skip => .skip
 | .d t x => .d t x
 | .nilS => .nilS
 | .empS => .empS
 | .nilF => .nilF
 | .nilP => .nilP
 | .nilM => .nilM
def AV.mapRs (f : AV → AV) : List AV → List AV
 | [] => []
 | v :: vs => AV.mapR f v :: AV.mapRs f vs
end
def Obj.mapR (f : AV → AV) : Obj → Obj
 | .box vs => .box (AV.mapRs f vs)
 | .arr m d t xs => .arr m d t xs
 | .mp tk tv kvs => .mp tk tv kvs
 | .bld d T e s => .bld d T e s
 | .dead => .dead
def Heap.mapR (f : AV → AV) : Heap → Heap
 | [] => []
 | (i, o) :: h => (i, o.mapR f) :: Heap.mapR f h
def Slots.mapR (f : AV → AV) : Slots → Slots
 | [] => []
 | (i, v) :: s => (i, v.mapR f) :: Slots.mapR f s
def St.mapR (f : AV → AV) (st : St) : St := ⟨Slots.mapR f st.tmps, Heap.mapR f st.heap⟩

def killF (id : Nat) : AV → AV
 | .os p => if p.id = id then .undef else .os p
 | .sub p a n => if p.id = id then .undef else .sub p a n
 | .el p i off => if p.id = id then .undef else .el p i off
 | .op i off => if i = id then .undef else .op i off
 | .mp i => if i = id then .undef else .mp i
 | v => v
def killInF (id : Nat) : AV → AV
 | .os p => if p.isIn = true ∧ p.id = id then .undef else .os p
 | .sub p a n => if p.isIn = true ∧ p.id = id then .undef else .sub p a n
 | .el p i off => if p.isIn = true ∧ p.id = id then .undef else .el p i off
 | v => v
def St.kill (id : Nat) (st : St) : St := st.mapR (killF id)

def St.alloc (st : St) (id : Nat) (o : Obj) : St :=
 match st.heap.get id with
 | none => { st with heap := st.heap.put id o }
 | some _ => ⟨Slots.mapR (killF id) st.tmps, (Heap.mapR (killF id) st.heap).put id (o.mapR (killF id))⟩

def flat : (t : Ty) → t.Den → List AV
 | .nil, _ => []
 | .cons a b, x => flat a x.1 ++ flat b x.2
 | .agg l, x => flat l x
 | .int k, x => [.d (.int k) x]
 | .bool, x => [.d .bool x]
 | .str, x => [.d .str x]
 | .err, x => [.d .err x]
 | .slice t, x => [.d (.slice t) x]
 | .ptr t, x => [.rp (flat t x)]

def castDen {a b : Ty} (h : a = b) (x : a.Den) : b.Den := h ▸ x

def asDen (t : Ty) : AV → Option t.Den
 | .d t' x => if h : t' = t then some (castDen h x) else none
 | _ => none

def asList (t : Ty) : AV → Option (List t.Den)
 | .nilS => some []
 | .empS => some []
 | v => asDen (.slice t) v

def unflat : (t : Ty) → List AV → Option (t.Den × List AV)
 | .nil, vs => some ((), vs)
 | .cons a b, vs => (unflat a vs).bind fun r => (unflat b r.2).map fun s => ((r.1, s.1), s.2)
 | .agg l, vs => unflat l vs
 | .int k, v :: vs => (asDen (.int k) v).map fun x => (x, vs)
 | .bool, v :: vs => (asDen .bool v).map fun x => (x, vs)
 | .str, v :: vs => (asDen .str v).map fun x => (x, vs)
 | .err, v :: vs => (asDen .err v).map fun x => (x, vs)
 | .slice t, v :: vs => (asList t v).map fun x => (x, vs)
 | .ptr t, v :: vs => match v with
  | .rp us => (unflat t us).map fun x => (x.1, vs)
  | _ => none
 | _, [] => none

def Heap.arrAt (h : Heap) : Pl → Option AV
 | .t id => match h.get id with
  | some (.arr _ _ t xs) => some (.d (.slice t) xs)
  | _ => none
 | .n id i off => match h.get id with
  | some (.arr _ true t xs) => if i < xs.length then match (flat t (xs.getD i t.zero))[off]? with
    | some (.d (.slice t') ys) => some (.d (.slice t') ys)
    | _ => none
   else none
  | _ => none
def Heap.deepAt (h : Heap) : Pl → Bool
 | .t id => match h.get id with
  | some (.arr _ d _ _) => d
  | _ => false
 | .n _ _ _ => false
def Obj.setIn (o : Obj) (i off : Nat) (t' : Ty) (ys : List t'.Den) : Option Obj := match o with
 | .arr m true t xs => if i < xs.length then (unflat t ((flat t (xs.getD i t.zero)).set off (.d (.slice t') ys))).bind fun y => if y.2.isEmpty then some (.arr m true t (xs.set i y.1)) else none else none
 | _ => none
def Heap.setAt (h : Heap) (t : Ty) (ys : List t.Den) : Pl → Option Heap
 | .t id => match h.get id with
  | some (.arr m d t' _) => if t' = t then some (h.put id (.arr m d t ys)) else none
  | _ => none
 | .n id i off => (h.get id).bind fun o => (o.setIn i off t ys).map fun o' => h.put id o'
def deepCells (id i : Nat) : Nat → List AV → List AV
 | _, [] => []
 | k, .d (.slice _) _ :: cs => .os (.n id i k) :: deepCells id i (k + 1) cs
 | k, c :: cs => c :: deepCells id i (k + 1) cs
def elemCells (h : Heap) (p : Pl) (i : Nat) (t : Ty) (x : t.Den) : List AV :=
 if h.deepAt p = true then deepCells p.id i 0 (flat t x) else flat t x

def AV.isOne : AV → Bool
 | .undef | .skip | .agg _ | .tuple _ => false
 | _ => true

def AV.isUndef : AV → Bool
 | .undef => true
 | _ => false

def AV.cells : AV → List AV
 | .agg vs => vs
 | v => [v]

inductive TD where
 | bool | int (k : IntKind) | str | err
 | slice (e : Nat)
 | struct (fs : List (Nat × Nat))
 | arr (n e : Nat)
 | ptr (e : Nat)
 | func
 | map (k e : Nat)
 | other
def lookT {α : Type} : List (Nat × α) → Nat → Option α
 | [], _ => none
 | (i, x) :: l, j => if i = j then some x else lookT l j

structure TI where
 desc : TD
 size : Nat
 bytes : Nat

def TI.isAgg (ti : TI) : Bool := match ti.desc with
 | .struct _ | .arr _ _ => true
 | _ => false

abbrev CallF := Nat → List AV → Heap → Option (AV × Heap)

structure Env where
 tab : Nat → Option TI
 ty : Nat → Option Ty
 byref : Nat → List Nat
 call : CallF

def mkV (ti : TI) (vs : List AV) : Option AV :=
 if ti.isAgg then some (.agg vs) else match vs with
  | [v] => some v
  | _ => none

def zeros (tab : Nat → Option TI) : Nat → Nat → Option (List AV)
 | 0, _ => none
 | n + 1, T => (tab T).bind fun ti => match ti.desc with
  | .bool => some [.d .bool false]
  | .int k => some [.d (.int k) (0 : Int)]
  | .str => some [.d .str ByteArray.empty]
  | .err => some [.d .err false]
  | .slice _ => some [.nilS]
  | .ptr _ => some [.nilP]
  | .func => some [.nilF]
  | .map _ _ => some [.nilM]
  | .struct fs => fs.foldlM (fun acc f => (zeros tab n f.2).map (acc ++ ·)) []
  | .arr m e => (zeros tab n e).map fun z => (List.replicate m z).flatten
  | .other => none

def ofConst1 : Value → AV
 | .bool b => .d .bool b
 | .int k n => .d (.int k) n
 | .string s => .d .str s
 | .slice none 0 0 => .nilS
 | .nilIface => .d .err false
 | .nilFunc => .nilF
 | .pointer none => .nilP
 | .map none => .nilM
 | _ => .undef
def ofConst : Value → AV
 | .agg cs => .agg (cs.toList.map ofConst1)
 | v => ofConst1 v

def eval (st : St) : Operand → AV
 | .tmp t => st.get t
 | .const v => ofConst v
 | .func f => .fn f []
 | .global _ => .undef

def cutAV (a n : Nat) : AV → AV
 | .d (.slice t) xs => .d (.slice t) ((List.drop a xs).take n)
 | _ => .undef
def frozenF (h : Heap) (id : Nat) : AV → AV
 | .os p => if p.id = id then (h.arrAt p).getD .undef else .os p
 | .sub p a n => if p.id = id then cutAV a n ((h.arrAt p).getD .undef) else .sub p a n
 | .el p i off => if p.id = id then .undef else .el p i off
 | .op i off => if i = id then .undef else .op i off
 | .mp i => if i = id then .undef else .mp i
 | v => v
def St.freeze (st : St) (id : Nat) : St := ⟨Slots.mapR (frozenF st.heap id) st.tmps, (Heap.mapR (frozenF st.heap id) st.heap).put id .dead⟩
def frozenInF (h : Heap) (id : Nat) : AV → AV
 | .os p => if p.isIn = true ∧ p.id = id then (h.arrAt p).getD .undef else .os p
 | .sub p a n => if p.isIn = true ∧ p.id = id then cutAV a n ((h.arrAt p).getD .undef) else .sub p a n
 | .el p i off => if p.isIn = true ∧ p.id = id then .undef else .el p i off
 | v => v
def St.freezeIn (st : St) (id : Nat) : St := match st.heap.get id with
 | some (.arr m true t xs) => ⟨Slots.mapR (frozenInF st.heap id) st.tmps, (Heap.mapR (frozenInF st.heap id) st.heap).put id (.arr m false t xs)⟩
 | _ => st

def AV.top : AV → Option Nat
 | .os p => some p.id
 | .sub p _ _ => some p.id
 | _ => none
def freezes : Nat → St → List AV → Option (List AV × St)
 | 0, st, vs => if vs.all (fun v => v.top.isNone) = true then some (vs, st) else none
 | n + 1, st, vs => match vs.findSome? AV.top with
  | none => some (vs, st)
  | some id => match st.heap.get id with
   | some (.arr _ _ _ _) => freezes n (st.freeze id) (AV.mapRs (frozenF st.heap id) vs)
   | _ => none

def absorb1 (h : Heap) : AV → Option (AV × List Nat)
 | .os (.t id) => match h.get id with
  | some (.arr _ false t xs) => some (.d (.slice t) xs, [id])
  | _ => none
 | .os (.n _ _ _) => none
 | .sub _ _ _ => none
 | .d t x => if t.refs = true then none else some (.d t x, [])
 | .nilS => some (.nilS, [])
 | .empS => some (.empS, [])
 | _ => none
def absorbs (h : Heap) : List AV → Option (List AV × List Nat)
 | [] => some ([], [])
 | v :: vs => (absorb1 h v).bind fun r => (absorbs h vs).map fun s => (r.1 :: s.1, r.2 ++ s.2)
def St.gone (st : St) : List Nat → St
 | [] => st
 | id :: ids => St.gone ⟨Slots.mapR (killF id) st.tmps, (Heap.mapR (killF id) st.heap).put id .dead⟩ ids

def mapO {α β : Type} (f : α → Option β) : List α → Option (List β)
 | [] => some []
 | x :: xs => (f x).bind fun y => (mapO f xs).map fun ys => y :: ys

def cutO (a n : Nat) : AV → Option AV
 | .d (.slice t) xs => some (.d (.slice t) ((List.drop a xs).take n))
 | _ => none
def elO (i off : Nat) : AV → Option AV
 | .d (.slice t) xs => some (.rp ((flat t (List.getD xs i t.zero)).drop off))
 | _ => none

def argOf (h : Heap) : Nat → AV → Option AV
 | 0, _ => none
 | _ + 1, .undef => none
 | _ + 1, .tuple _ => none
 | _ + 1, .mp _ => none
 | _ + 1, .os p => h.arrAt p
 | _ + 1, .sub p a n => (h.arrAt p).bind (cutO a n)
 | _ + 1, .el p i off => (h.arrAt p).bind (elO i off)
 | m + 1, .op id off => match h.get id with
  | some (.box vs) => (mapO (argOf h m) (vs.drop off)).map .rp
  | _ => none
 | m + 1, .rp vs => (mapO (argOf h m) vs).map .rp
 | m + 1, .agg vs => (mapO (argOf h m) vs).map .agg
 | m + 1, .fn f vs => (mapO (argOf h m) vs).map (.fn f)
 | _ + 1, v => some v

mutual
def AV.shares : AV → Bool
 | .d t _ => t.refs
 | .rp _ => true
 | .agg vs => AV.sharess vs
 | .tuple vs => AV.sharess vs
 | .fn _ vs => AV.sharess vs
 | _ => false
def AV.sharess : List AV → Bool
 | [] => false
 | v :: vs => AV.shares v || AV.sharess vs
end
def Ty.refs2 : Ty → Bool
 | .slice t => t.refs
 | .ptr _ => true
 | .cons a b => a.refs2 || b.refs2
 | .agg l => l.refs2
 | _ => false
def Obj.shares : Obj → Bool
 | .arr _ d t _ => if d = true then t.refs2 else t.refs
 | .box vs => AV.sharess vs
 | .mp tk tv _ => tk.refs || tv.refs
 | .bld _ _ _ _ => false
 | .dead => false
def Heap.shares : Heap → Bool
 | [] => false
 | (_, o) :: h => o.shares || Heap.shares h
mutual
def AV.owned : AV → Bool
 | .os _ => true
 | .sub _ _ _ => true
 | .el _ _ _ => true
 | .op _ _ => true
 | .mp _ => true
 | .rp vs => AV.owneds vs
 | .agg vs => AV.owneds vs
 | .tuple vs => AV.owneds vs
 | .fn _ vs => AV.owneds vs
 | _ => false
def AV.owneds : List AV → Bool
 | [] => false
 | v :: vs => AV.owned v || AV.owneds vs
end

abbrev lentFrom : Nat := 1000000
inductive Ln where
 | a (p : Pl)
 | b (id : Nat)
 deriving DecidableEq
def Ln.id : Ln → Nat
 | .a p => p.id
 | .b id => id
mutual
def refsOf : AV → List Ln
 | .os p => [.a p]
 | .sub p _ _ => [.a p]
 | .el p _ _ => [.a p]
 | .op id _ => [.b id]
 | .mp id => [.b id]
 | .rp vs => refsOfs vs
 | .agg vs => refsOfs vs
 | .tuple vs => refsOfs vs
 | .fn _ vs => refsOfs vs
 | _ => []
def refsOfs : List AV → List Ln
 | [] => []
 | v :: vs => refsOf v ++ refsOfs vs
end
def closure (h : Heap) : Nat → List Ln → List Ln → List Ln
 | 0, _, done => done
 | _ + 1, [], done => done
 | n + 1, l :: todo, done => if done.contains l = true then closure h n todo done else match l with
  | .a p => closure h n todo (done ++ [.a p])
  | .b id => match h.get id with
   | some (.box vs) => closure h n (refsOfs vs ++ todo) (done ++ [.b id])
   | _ => closure h n todo (done ++ [.b id])
def Heap.bury (h : Heap) : List Ln → Heap
 | [] => h
 | l :: ls => Heap.bury (h.put l.id .dead) ls
def indexL (l : Ln) : Nat → List Ln → Option Nat
 | _, [] => none
 | k, l' :: ls => if l' = l then some k else indexL l (k + 1) ls
def lentF (ls : List Ln) : AV → AV
 | .os p => match indexL (.a p) lentFrom ls with
  | some k => .os (.t k)
  | none => .undef
 | .sub p a n => match indexL (.a p) lentFrom ls with
  | some k => .sub (.t k) a n
  | none => .undef
 | .el p i off => match indexL (.a p) lentFrom ls with
  | some k => .el (.t k) i off
  | none => .undef
 | .op id off => match indexL (.b id) lentFrom ls with
  | some k => .op k off
  | none => .undef
 | .mp id => match indexL (.b id) lentFrom ls with
  | some k => .mp k
  | none => .undef
 | v => v
def lentArr (d : Bool) : AV → Option Obj
 | .d (.slice t) xs => some (.arr false d t xs)
 | _ => none
def lentObj (h : Heap) (ls : List Ln) : Ln → Option Obj
 | .a p => (h.arrAt p).bind (lentArr (h.deepAt p))
 | .b id => match h.get id with
  | some (.box vs) => some (.box (AV.mapRs (lentF ls) vs))
  | some (.mp tk tv kvs) => some (.mp tk tv kvs)
  | some (.bld d T e s) => some (.bld d T e s)
  | _ => none
def lentHeap (h : Heap) (all : List Ln) : Nat → List Ln → Option Heap
 | _, [] => some []
 | k, l :: ls => (lentObj h all l).bind fun o => (lentHeap h all (k + 1) ls).map fun r => (k, o) :: r
def argsOf (h0 : Heap) (ls : List Ln) (by_ : List Nat) : Nat → List AV → Option (List AV)
 | _, [] => some []
 | k, v :: vs => (if by_.contains k = true then some (v.mapR (lentF ls)) else argOf h0 8 v).bind fun u => (argsOf h0 ls by_ (k + 1) vs).map fun us => u :: us
def byRefs (by_ : List Nat) : Nat → List AV → List AV
 | _, [] => []
 | k, v :: vs => if by_.contains k = true then v :: byRefs by_ (k + 1) vs else byRefs by_ (k + 1) vs
def plainOwned (by_ : List Nat) : Nat → List AV → Bool
 | _, [] => false
 | k, v :: vs => (!by_.contains k && v.owned) || plainOwned by_ (k + 1) vs

def nodupN : List Nat → Bool
 | [] => true
 | x :: xs => !xs.contains x && nodupN xs

def newIds : Heap → List Nat
 | [] => []
 | (i, _) :: h => if i < lentFrom then i :: newIds h else newIds h
def indexN (i : Nat) : Nat → List Nat → Option Nat
 | _, [] => none
 | k, j :: js => if j = i then some k else indexN i (k + 1) js
def getL {α : Type} : List α → Nat → Option α
 | [], _ => none
 | x :: _, 0 => some x
 | _ :: xs, n + 1 => getL xs n
def backT (base : Nat) (ls : List Ln) (ns : List Nat) (i : Nat) : Option Pl :=
 if i < lentFrom then (indexN i base ns).map .t else match getL ls (i - lentFrom) with
  | some (.a p) => some p
  | some (.b id) => some (.t id)
  | none => none
def backP (base : Nat) (ls : List Ln) (ns : List Nat) : Pl → Option Pl
 | .t i => backT base ls ns i
 | .n i j off => match backT base ls ns i with
  | some (.t id) => some (.n id j off)
  | _ => none
def backF (base : Nat) (ls : List Ln) (ns : List Nat) : AV → AV
 | .os p => match backP base ls ns p with
  | some q => .os q
  | none => .undef
 | .sub p a n => match backP base ls ns p with
  | some q => .sub q a n
  | none => .undef
 | .el p i off => match backP base ls ns p with
  | some q => .el q i off
  | none => .undef
 | .op i off => match backT base ls ns i with
  | some (.t id) => .op id off
  | _ => .undef
 | .mp i => match backT base ls ns i with
  | some (.t id) => .mp id
  | _ => .undef
 | v => v
def backObj (f : AV → AV) (h h' : Heap) (k : Nat) : Ln → Option Obj
 | .a (.t id) => (h.get id).bind fun o => (h'.get k).bind fun o' => match o, o' with
  | .arr m _ _ _, .arr m' d t xs => some (.arr (m || m') d t xs)
  | .arr _ _ _ _, .dead => some .dead
  | _, _ => none
 | .a (.n id i off) => (h.get id).bind fun o => (h.arrAt (.n id i off)).bind fun v => (h'.get k).bind fun o' => match o', v with
  | .arr false false t xs, .d (.slice t') _ => if t' = t then o.setIn i off t xs else none
  | _, _ => none
 | .b id => (h.get id).bind fun o => (h'.get k).bind fun o' => match o, o' with
  | .box _, .box vs => some (.box (AV.mapRs f vs))
  | .mp _ _ _, .mp tk tv kvs => some (.mp tk tv kvs)
  | .bld _ _ _ _, .bld d T e s => some (.bld d T e s)
  | _, _ => none
def backObjs (f : AV → AV) (h h' : Heap) : Nat → List Ln → Option (List (Nat × Obj))
 | _, [] => some []
 | k, l :: ls => (backObj f h h' k l).bind fun o => (backObjs f h h' (k + 1) ls).map fun r => (l.id, o) :: r
def newObjs (f : AV → AV) (h' : Heap) : Nat → List Nat → List (Nat × Obj)
 | _, [] => []
 | k, j :: js => (k, ((h'.get j).getD .dead).mapR f) :: newObjs f h' (k + 1) js
def movedIds (h' : Heap) : Nat → List Ln → List Nat
 | _, [] => []
 | k, .a (.t id) :: ls => match h'.get k with
  | some (.arr false _ _ _) => movedIds h' (k + 1) ls
  | _ => id :: movedIds h' (k + 1) ls
 | k, _ :: ls => movedIds h' (k + 1) ls
def wholeIds : List Ln → List Nat
 | [] => []
 | .a (.t id) :: ls => id :: wholeIds ls
 | .b id :: ls => id :: wholeIds ls
 | .a (.n _ _ _) :: ls => wholeIds ls
def upTo : Nat → Nat → List Nat
 | _, 0 => []
 | k, n + 1 => k :: upTo (k + 1) n
def lostF (ids ins : List Nat) : AV → AV
 | .os p => if ids.contains p.id = true ∨ (p.isIn = true ∧ ins.contains p.id = true) then .undef else .os p
 | .sub p a n => if ids.contains p.id = true ∨ (p.isIn = true ∧ ins.contains p.id = true) then .undef else .sub p a n
 | .el p i off => if ids.contains p.id = true ∨ (p.isIn = true ∧ ins.contains p.id = true) then .undef else .el p i off
 | .op i off => if ids.contains i = true then .undef else .op i off
 | .mp i => if ids.contains i = true then .undef else .mp i
 | v => v
def Heap.puts : Heap → List (Nat × Obj) → Heap
 | h, [] => h
 | h, (i, o) :: l => Heap.puts (h.put i o) l
def back (st : St) (base : Nat) (ls : List Ln) (r : AV × Heap) : Option (AV × St) :=
 if (newIds r.2).length ≤ 32 ∧ base + 32 ≤ lentFrom ∧ nodupN (newIds r.2) = true ∧ ls.all (fun l => decide (l.id < base ∨ base + 32 ≤ l.id)) = true then
  (backObjs (backF base ls (newIds r.2)) st.heap r.2 lentFrom ls).bind fun us =>
   some (r.1.mapR (backF base ls (newIds r.2)),
    ⟨Slots.mapR (lostF (movedIds r.2 lentFrom ls ++ upTo base (newIds r.2).length) (wholeIds ls)) st.tmps,
     ((Heap.mapR (lostF (movedIds r.2 lentFrom ls ++ upTo base (newIds r.2).length) (wholeIds ls)) (st.heap.bury ls)).puts us).puts (newObjs (backF base ls (newIds r.2)) r.2 base (newIds r.2))⟩)
 else none
def callPre (by_ : List Nat) (st : St) (vs : List AV) : Option (List Ln × List AV × Heap) :=
 let ls := closure st.heap 60 (refsOfs (byRefs by_ 0 vs)) []
 if nodupN (ls.map Ln.id) = true then
  (argsOf (st.heap.bury ls) ls by_ 0 vs).bind fun us => (lentHeap st.heap ls lentFrom ls).map fun hl => (ls, us, hl)
 else none
def callG (E : Env) (st : St) (base g : Nat) (vs : List AV) : Option (AV × St) :=
 (callPre (E.byref g) st vs).bind fun x => (E.call g x.2.1 x.2.2).bind fun r =>
  if (plainOwned (E.byref g) 0 vs && (r.1.shares || r.2.shares)) = true then none else back st base x.1 r

def intBits (op : BinOp) (k : IntKind) (x y : Int) : Option Int :=
 let a := BitVec.ofInt k.bits x
 let b := BitVec.ofInt k.bits y
 match op with
 | .and => some (k.wrap (a &&& b).toNat)
 | .or => some (k.wrap (a ||| b).toNat)
 | .xor => some (k.wrap (a ^^^ b).toNat)
 | .andNot => some (k.wrap (a &&& ~~~b).toNat)
 | _ => none

def binInt (op : BinOp) (k : IntKind) (a b : Int) : Option AV :=
 match op with
 | .add => some (.d (.int k) (k.wrap (a + b)))
 | .sub => some (.d (.int k) (k.wrap (a - b)))
 | .mul => some (.d (.int k) (k.wrap (a * b)))
 | .quo => if b = 0 then none else some (.d (.int k) (k.wrap (a.tdiv b)))
 | .rem => if b = 0 then none else some (.d (.int k) (a.tmod b))
 | .shl => if b < 0 then none else some (.d (.int k) (k.wrap (a * 2 ^ (min b.toNat k.bits))))
 | .shr => if b < 0 then none else some (.d (.int k) (a.fdiv (2 ^ (min b.toNat k.bits))))
 | .and | .or | .xor | .andNot => (intBits op k a b).map fun x => .d (.int k) x
 | .eql => some (.d .bool (a == b))
 | .neq => some (.d .bool (a != b))
 | .lss => some (.d .bool (decide (a < b)))
 | .leq => some (.d .bool (decide (a ≤ b)))
 | .gtr => some (.d .bool (decide (a > b)))
 | .geq => some (.d .bool (decide (a ≥ b)))

def binStr (op : BinOp) (a b : ByteArray) : Option AV :=
 let eq := a.toList == b.toList
 let lt := Op.bytesLess a.toList b.toList
 match op with
 | .add => if ((a.size + b.size : Nat) : Int) > IntKind.i64.max then none else some (.d .str (a ++ b))
 | .eql => some (.d .bool eq)
 | .neq => some (.d .bool !eq)
 | .lss => some (.d .bool lt)
 | .leq => some (.d .bool (lt || eq))
 | .gtr => some (.d .bool !(lt || eq))
 | .geq => some (.d .bool !lt)
 | _ => none

def binOp (op : BinOp) : AV → AV → Option AV
 | .d (.int k) a, .d (.int k') b =>
  match op with
  | .shl | .shr => binInt op k a b
  | _ => if k = k' then binInt op k a b else none
 | .d .str a, .d .str b => binStr op a b
 | .d .bool a, .d .bool b => match op with
  | .eql => some (.d .bool (a == b))
  | .neq => some (.d .bool (!(a == b)))
  | _ => none
 | _, _ => none

def unOp (op : UnOp) : AV → Option AV
 | .d .bool a => match op with
  | .not => some (.d .bool (!a))
  | _ => none
 | .d (.int k) a => match op with
  | .neg => some (.d (.int k) (k.wrap (0 - a)))
  | .xor => (intBits .xor k (if k.signed then -1 else k.max) a).map fun x => .d (.int k) x
  | _ => none
 | _ => none

def elAt (h : Heap) (p : Pl) (i off : Nat) : AV → Option (List AV)
 | .d (.slice t) xs => some ((elemCells h p i t (List.getD xs i t.zero)).drop off)
 | _ => none
def cellsAt (h : Heap) : AV → Option (List AV)
 | .rp vs => some vs
 | .op id off => match h.get id with
  | some (.box vs) => some (vs.drop off)
  | _ => none
 | .el p i off => (h.arrAt p).bind (elAt h p i off)
 | _ => none
def loadAt (E : Env) (h : Heap) (T : Nat) (p : AV) : Option AV :=
 (E.tab T).bind fun ti => (cellsAt h p).bind fun vs => if ti.size ≤ vs.length then mkV ti (vs.take ti.size) else none

def spliceEl (t : Ty) (x : t.Den) (off : Nat) (cs : List AV) : Option t.Den :=
 if off + cs.length ≤ t.size then (unflat t ((flat t x).take off ++ cs ++ (flat t x).drop (off + cs.length))).bind fun y => if y.2.isEmpty then some y.1 else none else none

def storeDeep (st : St) (id : Nat) (t : Ty) (m : Bool) (xs : List t.Den) (i off : Nat) (cs : List AV) : Option St :=
 (absorbs st.heap cs).bind fun r => if nodupN (id :: r.2) = true then
   (spliceEl t (xs.getD i t.zero) off r.1).bind fun y =>
    some ⟨Slots.mapR (killInF id) (St.gone st r.2).tmps, (Heap.mapR (killInF id) (St.gone st r.2).heap).put id (.arr m true t (xs.set i y))⟩
  else none
def storeFlat (st : St) (p : Pl) (i off : Nat) (cs : List AV) : AV → Option St
 | .d (.slice t) xs => (spliceEl t (List.getD xs i t.zero) off cs).bind fun y => (st.heap.setAt t (List.set xs i y) p).map fun h => ⟨st.tmps, h⟩
 | _ => none
def storeEl (st : St) (p : Pl) (i off : Nat) (cs : List AV) : Option St :=
 match p with
 | .t id => match st.heap.get id with
  | some (.arr m true t xs) => match storeDeep st id t m xs i off cs with
   | some s => some s
   | none => (freezes 4 (st.freezeIn id) (AV.mapRs (frozenInF st.heap id) cs)).bind fun r => (r.2.heap.arrAt (.t id)).bind (storeFlat r.2 (.t id) i off r.1)
  | _ => (freezes 4 st cs).bind fun r => (r.2.heap.arrAt (.t id)).bind (storeFlat r.2 (.t id) i off r.1)
 | .n id j o => if AV.owneds cs = true ∨ AV.sharess cs = true then none else (st.heap.arrAt (.n id j o)).bind (storeFlat st (.n id j o) i off cs)

def storeAt (E : Env) (st : St) (T : Nat) (p v : AV) : Option St :=
 (E.tab T).bind fun ti => if v.cells.length ≠ ti.size ∨ v.isUndef = true then none else match p with
  | .op id off => match st.heap.get id with
   | some (.box vs) => if off + ti.size ≤ vs.length ∧ v.cells.all AV.isOne = true then some { st with heap := st.heap.put id (.box (vs.take off ++ v.cells ++ vs.drop (off + ti.size))) } else none
   | _ => none
  | .el p i off => storeEl st p i off v.cells
  | _ => none

def lenAV : AV → Option Nat
 | .d (.slice _) xs => some (List.length xs)
 | _ => none
def sizeAV : AV → Option Nat
 | .d (.slice t) _ => some t.size
 | _ => none

def indexAddr (E : Env) (h : Heap) (T : Nat) (x : AV) (i : Int) : Option AV :=
 (E.tab T).bind fun ti => match ti.desc with
  | .slice e => (E.tab e).bind fun te => match x with
   | .d (.slice t) xs => if te.size = t.size then if 0 ≤ i ∧ i < List.length xs then some (.rp (flat t (List.getD xs i.toNat t.zero))) else none else none
   | .os p => (h.arrAt p).bind fun v => (sizeAV v).bind fun z => (lenAV v).bind fun n => if te.size = z then if 0 ≤ i ∧ i < n then some (.el p i.toNat 0) else none else none
   | .sub p a n => (h.arrAt p).bind fun v => (sizeAV v).bind fun z => if te.size = z then if 0 ≤ i ∧ i < n then some (.el p (a + i.toNat) 0) else none else none
   | _ => none
  | .arr n e => (E.tab e).bind fun te => if 0 ≤ i ∧ i < n ∧ 1 < n then match x with
    | .rp vs => some (.rp (vs.drop (i.toNat * te.size)))
    | .op id off => some (.op id (off + i.toNat * te.size))
    | _ => none
   else none
  | _ => none

def fieldAddr (E : Env) (T : Nat) (x : AV) (j : Nat) : Option AV :=
 (E.tab T).bind fun ti => match ti.desc with
  | .struct fs => (fs[j]?).bind fun f => (E.tab f.2).bind fun tf => if tf.size = 0 then none else match x with
   | .rp vs => some (.rp (vs.drop f.1))
   | .op id off => some (.op id (off + f.1))
   | .el p i off => some (.el p i (off + f.1))
   | _ => none
  | _ => none

def field (E : Env) (T : Nat) (x : AV) (j : Nat) : Option AV :=
 (E.tab T).bind fun ti => match ti.desc with
  | .struct fs => (fs[j]?).bind fun f => (E.tab f.2).bind fun tf => match x with
   | .agg vs => if f.1 + tf.size ≤ vs.length then mkV tf ((vs.drop f.1).take tf.size) else none
   | _ => none
  | _ => none

def fillAt (cells : List AV) (off : Nat) (vs : List AV) : Option (List AV) :=
 if off + vs.length ≤ cells.length then some (cells.take off ++ vs ++ cells.drop (off + vs.length)) else none

def build (E : Env) (T : Nat) (parts : List (Nat × AV)) : Option AV :=
 (E.tab T).bind fun ti => match ti.desc with
  | .struct fs => (zeros E.tab 8 T).bind fun z => (parts.foldlM (fun acc p => (fs[p.1]?).bind fun f => (E.tab f.2).bind fun tf => if p.2.isUndef = false ∧ p.2.cells.length = tf.size then fillAt acc f.1 p.2.cells else none) z).map .agg
  | .arr _ e => (E.tab e).bind fun te => (zeros E.tab 8 T).bind fun z => (parts.foldlM (fun acc p => if p.2.isUndef = false ∧ p.2.cells.length = te.size then fillAt acc (p.1 * te.size) p.2.cells else none) z).map .agg
  | _ => none

def elems (t : Ty) : List (List AV) → Option (List t.Den)
 | [] => some []
 | cs :: vs => (unflat t cs).bind fun x => if x.2.isEmpty then (elems t vs).map fun xs => x.1 :: xs else none

def inOrder : Nat → List (Nat × AV) → Bool
 | _, [] => true
 | k, p :: ps => p.1 == k && inOrder (k + 1) ps

def groups (sz : Nat) : Nat → List AV → List (List AV)
 | 0, _ => []
 | n + 1, cs => cs.take sz :: groups sz n (cs.drop sz)

def newArr (st : St) (id : Nat) (t : Ty) (cells : List AV) (len : Nat) : Option (AV × St) :=
 match (if t.refs = true then (absorbs st.heap cells).bind fun r => if nodupN r.2 = true then some r else none else none) with
 | some r => (elems t (groups t.size len r.1)).bind fun xs =>
   let s := St.gone st r.2
   some (.os (.t id), s.alloc id (.arr true true t xs))
 | none => (freezes 4 st cells).bind fun r => (elems t (groups t.size len r.1)).bind fun xs => some (.os (.t id), r.2.alloc id (.arr true false t xs))

def flatCells : List AV → List AV
 | [] => []
 | v :: vs => v.cells ++ flatCells vs

def elP (E : Env) (te : TI) : Option Ty := match te.desc with
 | .ptr x => if te.size = 1 then (E.ty x).map .ptr else none
 | _ => none
def elT (E : Env) (e : Nat) : Option Ty → Option Ty
 | some t => some t
 | none => (E.tab e).bind (elP E)
def elTy (E : Env) (e : Nat) : Option Ty := elT E e (E.ty e)
def buildSlice (E : Env) (st : St) (id T len : Nat) (parts : List (Nat × AV)) : Option (AV × St) :=
 (E.tab T).bind fun ti => match ti.desc with
  | .slice e => (elTy E e).bind fun t => if len = parts.length ∧ inOrder 0 parts = true ∧ len * t.size ≤ 16777216 ∧ t.size ≠ 0 ∧ (parts.map (·.2)).all (fun v => v.cells.length == t.size && !v.isUndef) = true then
    newArr st id t (flatCells (parts.map (·.2))) len
   else none
  | _ => none

def makeSlice (E : Env) (st : St) (id T : Nat) (len cap : Int) : Option (AV × St) :=
 (E.tab T).bind fun ti => match ti.desc with
  | .slice e => (E.tab e).bind fun te => (E.ty e).bind fun t => if 0 ≤ len ∧ len ≤ cap ∧ te.bytes * cap ≤ 140737488355328 ∧ cap ≤ 9223372036854775807 then some (.os (.t id), st.alloc id (.arr true t.refs t (List.replicate len.toNat t.zero))) else none
  | _ => none

def bounds (n : Nat) (lo hi : Option Int) : Option (Nat × Nat) :=
 let l := lo.getD 0
 let h := hi.getD n
 if 0 ≤ l ∧ l ≤ h ∧ h ≤ n then some (l.toNat, h.toNat) else none

def bounds2 (n m : Nat) (lo hi : Option Int) : Option (Nat × Nat) :=
 if 0 ≤ lo.getD 0 ∧ lo.getD 0 ≤ hi.getD n ∧ hi.getD n ≤ m then some ((lo.getD 0).toNat, (hi.getD n).toNat) else none
def orB {α : Type} : Option α → Option α → Option α
 | some x, _ => some x
 | none, y => y

def cut {α : Type} (xs : List α) (lo hi : Option Int) : Option (List α) :=
 match lo, hi with
 | none, none => some xs
 | some l, none => if 0 ≤ l ∧ l ≤ xs.length then some (xs.drop l.toNat) else none
 | none, some h => if 0 ≤ h ∧ h ≤ xs.length then some (xs.take h.toNat) else none
 | some l, some h => if 0 ≤ l ∧ l ≤ h ∧ h ≤ xs.length then some ((xs.drop l.toNat).take (h.toNat - l.toNat)) else none

def sliceOp (h : Heap) (sz : Nat) (x : AV) (lo hi mx : Option Int) : Option AV :=
 match mx with
 | some m => match lo, hi with   -- xs[:0:0]
  | none, some l => if m = 0 ∧ l = 0 then match x with
   | .d (.slice _) _ => some .empS
   | .os _ => some .empS
   | .sub _ _ _ => some .empS
   | .nilS => some .empS
   | .empS => some .empS
   | _ => none
   else none
  | some l, some r => if 0 ≤ l ∧ l ≤ r ∧ r ≤ m then match x with   -- a look at the bounds
   | .d (.slice _) xs => if m ≤ List.length xs then some .undef else none
   | .os p => (h.arrAt p).bind fun v => (lenAV v).bind fun n => if m ≤ n then some .undef else none
   | .sub p _ n => (h.arrAt p).bind fun v => (lenAV v).bind fun _ => if m ≤ n then some .undef else none
   | _ => none
   else none
  | _, _ => none
 | none => match x with
  | .d (.slice t) xs => if sz = t.size then (cut xs lo hi).map fun ys => .d (.slice t) ys else none
  | .os p => (h.arrAt p).bind fun v => (sizeAV v).bind fun z => (lenAV v).bind fun n => if sz = z then (bounds n lo hi).map fun b => .sub p b.1 (b.2 - b.1) else none
  | .sub p a n => (h.arrAt p).bind fun v => (sizeAV v).bind fun z => (lenAV v).bind fun len => if sz = z then (orB (bounds n lo hi) (bounds2 n (len - a) lo hi)).map fun b => .sub p (a + b.1) (b.2 - b.1) else none
  | .nilS => (bounds 0 lo hi).map fun _ => .empS
  | .empS => (bounds 0 lo hi).map fun _ => .empS
  | _ => none

def sliceT (E : Env) (h : Heap) (T : Nat) (x : AV) (lo hi mx : Option Int) : Option AV :=
 (E.tab T).bind fun ti => match ti.desc with
  | .str => match mx, x with
   | none, .d .str s => (bounds s.size lo hi).map fun b => .d .str (s.extract b.1 b.2)
   | _, _ => none
  | .slice e => (E.tab e).bind fun te => sliceOp h te.size x lo hi mx
  | _ => none

def lenOf (h : Heap) : AV → Option Int
 | .d (.slice _) xs => some (List.length xs)
 | .os p => (h.arrAt p).bind fun v => (lenAV v).map (fun (n : Nat) => (n : Int))
 | .sub _ _ n => some n
 | .nilS => some 0
 | .empS => some 0
 | _ => none

def lenT (E : Env) (T : Nat) (h : Heap) (x : AV) : Option Int :=
 (E.tab T).bind fun ti => match ti.desc with
  | .str => match x with
   | .d .str s => some s.size
   | _ => none
  | .slice _ => lenOf h x
  | .arr n _ => some n
  | .map _ _ => match x with
   | .mp id => match h.get id with
    | some (.mp _ _ kvs) => some (kvs.length : Int)
    | _ => none
   | _ => none
  | _ => none

def listOf (h : Heap) (t : Ty) : AV → Option (List t.Den)
 | .os p => if h.deepAt p = true ∧ t.refs = true then none else (h.arrAt p).bind (asDen (.slice t))
 | .sub p a n => if h.deepAt p = true ∧ t.refs = true then none else ((h.arrAt p).bind (cutO a n)).bind (asDen (.slice t))
 | v => asList t v

def bytesL (s : ByteArray) : List Int := s.data.toList.map fun b => (b.toNat : Int)
def bytesS (xs : List Int) : ByteArray := ⟨(xs.map fun n => UInt8.ofNat n.toNat).toArray⟩

def roomFor (n bytes : Nat) : Bool := decide (n * bytes ≤ 140737488355328 ∧ n ≤ 9223372036854775807)

def appendTo (st : St) (id : Nat) (t : Ty) (bytes : Nat) (ys : List t.Den) : AV → Option (AV × St)
 | .nilS => if roomFor ys.length bytes = true then some (.os (.t id), st.alloc id (.arr true false t ys)) else none
 | .empS => if roomFor ys.length bytes = true then some (.os (.t id), st.alloc id (.arr true false t ys)) else none
 | .os (.t i) => match st.heap.get i with
  | some (.arr _ false t' xs) => (asDen (.slice t) (.d (.slice t') xs)).bind fun xs =>
    if roomFor (List.length xs + ys.length) bytes = true then some (.os (.t i), ⟨(st.kill i).tmps, (st.kill i).heap.put i (.arr true false t (xs ++ ys))⟩) else none
  | _ => none
 | .sub (.t i) a n => match st.heap.get i with
  | some (.arr _ false t' xs) => (asDen (.slice t) (.d (.slice t') xs)).bind fun xs =>
    if a + n + ys.length ≤ List.length xs then (st.heap.setAt t (List.take (a + n) xs ++ ys ++ List.drop (a + n + ys.length) xs) (.t i)).map fun h => (.sub (.t i) a (n + ys.length), ⟨st.tmps, h⟩)
    else if roomFor (n + ys.length) bytes = true then some (.os (.t i), ⟨(st.kill i).tmps, (st.kill i).heap.put i (.arr true false t ((List.drop a xs).take n ++ ys))⟩) else none
  | _ => none
 | _ => none

def appendDeep (st : St) (id : Nat) (t : Ty) (bytes : Nat) (s y : AV) : Option (AV × St) :=
 match y with
 | .os (.t j) => match st.heap.get j with
  | some (.arr _ true ty ys) => (asDen (.slice t) (.d (.slice ty) ys)).bind fun ys => match s with
   | .nilS => if roomFor (List.length ys) bytes = true then some (.os (.t id), (St.gone st [j]).alloc id (.arr true true t ys)) else none
   | .empS => if roomFor (List.length ys) bytes = true then some (.os (.t id), (St.gone st [j]).alloc id (.arr true true t ys)) else none
   | .os (.t i) => match st.heap.get i with
    | some (.arr _ true t' xs) => if i = j then none else (asDen (.slice t) (.d (.slice t') xs)).bind fun xs =>
      if roomFor (List.length xs + List.length ys) bytes = true then some (.os (.t i), ⟨((St.gone st [j]).kill i).tmps, ((St.gone st [j]).kill i).heap.put i (.arr true true t (xs ++ ys))⟩) else none
    | _ => none
   | _ => none
  | _ => none
 | _ => none

def freezeInOf (st : St) (v : AV) : St := match v with
 | .os p => st.freezeIn p.id
 | .sub p _ _ => st.freezeIn p.id
 | _ => st
def frozenInOf (st : St) (v w : AV) : AV := match v with
 | .os p => w.mapR (frozenInF st.heap p.id)
 | .sub p _ _ => w.mapR (frozenInF st.heap p.id)
 | _ => w

def append (E : Env) (st : St) (id T T2 : Nat) (s y : AV) : Option (AV × St) :=
 (E.tab T).bind fun ti => (E.tab T2).bind fun ti2 => match ti.desc, ti2.desc with
  | .slice e, .slice _ => (E.tab e).bind fun te => (E.ty e).bind fun t =>
   if t.refs = true then
    match appendDeep st id t te.bytes s y with
    | some r => some r
    | none =>
     let st1 := freezeInOf st s
     let st2 := freezeInOf st1 (frozenInOf st s y)
     let y2 := frozenInOf st1 (frozenInOf st s y) (frozenInOf st s y)
     let s2 := frozenInOf st1 (frozenInOf st s y) (frozenInOf st s s)
     (listOf st2.heap t y2).bind fun ys => appendTo st2 id t te.bytes ys s2
   else (listOf st.heap t y).bind fun ys => appendTo st id t te.bytes ys s
  | .slice e, .str => (E.tab e).bind fun te => (E.ty e).bind fun t => match t, y with
   | .int .u8, .d .str b => appendTo st id (.int .u8) te.bytes (bytesL b) s
   | _, _ => none
  | _, _ => none

def copyIn {α : Type} (xs ys : List α) (a n : Nat) : List α := xs.take a ++ ys.take n ++ xs.drop (a + (ys.take n).length)
def copyTo (st : St) (t : Ty) (ys : List t.Den) : AV → Option (AV × St)
 | .nilS => some (.d (.int .i64) (0 : Int), st)
 | .empS => some (.d (.int .i64) (0 : Int), st)
 | .os p => if st.heap.deepAt p = true ∧ t.refs = true then none else (listOf st.heap t (.os p)).bind fun xs =>
   (st.heap.setAt t (copyIn xs ys 0 (List.length xs)) p).map fun h => (.d (.int .i64) ((min ys.length (List.length xs) : Nat) : Int), ⟨st.tmps, h⟩)
 | .sub p a n => if st.heap.deepAt p = true ∧ t.refs = true then none else (listOf st.heap t (.os p)).bind fun xs =>
   (st.heap.setAt t (copyIn xs ys a n) p).map fun h => (.d (.int .i64) ((min ys.length n : Nat) : Int), ⟨st.tmps, h⟩)
 | _ => none
def copy (E : Env) (st : St) (T T2 : Nat) (x y : AV) : Option (AV × St) :=
 (E.tab T).bind fun ti => (E.tab T2).bind fun ti2 => match ti.desc, ti2.desc with
  | .slice e, .slice _ => (E.ty e).bind fun t => if t.refs = true then none else (listOf st.heap t y).bind fun ys => copyTo st t ys x
  | .slice e, .str => (E.ty e).bind fun t => match t, y with
   | .int .u8, .d .str b => copyTo st (.int .u8) (bytesL b) x
   | _, _ => none
  | _, _ => none
def clear (E : Env) (st : St) (T : Nat) (x : AV) : Option (AV × St) :=
 (E.tab T).bind fun ti => match ti.desc with
  | .slice e => (E.ty e).bind fun t => match x with
   | .nilS => some (.tuple [], st)
   | .empS => some (.tuple [], st)
   | .os p => if st.heap.deepAt p = true ∧ t.refs = true then none else (listOf st.heap t (.os p)).bind fun xs =>
     (st.heap.setAt t (copyIn xs (List.replicate (List.length xs) t.zero) 0 (List.length xs)) p).map fun h => (.tuple [], ⟨st.tmps, h⟩)
   | .sub p a n => if st.heap.deepAt p = true ∧ t.refs = true then none else (listOf st.heap t (.os p)).bind fun xs =>
     (st.heap.setAt t (copyIn xs (List.replicate n t.zero) a n) p).map fun h => (.tuple [], ⟨st.tmps, h⟩)
   | _ => none
  | _ => none

def keyD : TD → Ty → Bool
 | .str, .str => true
 | .bool, .bool => true
 | .int k, .int k' => decide (k = k')
 | _, _ => false
def keyEq : (t : Ty) → t.Den → t.Den → Bool
 | .int _, a, b => decide ((show Int from a) = (show Int from b))
 | .bool, a, b => (show Bool from a) == (show Bool from b)
 | .str, a, b => decide ((show ByteArray from a) = (show ByteArray from b))
 | _, _, _ => false
def findL {tk tv : Ty} (k : tk.Den) : List (tk.Den × tv.Den) → Option tv.Den
 | [] => none
 | p :: l => if keyEq tk k p.1 = true then some p.2 else findL k l
def updL {tk tv : Ty} (k : tk.Den) (x : tv.Den) : List (tk.Den × tv.Den) → List (tk.Den × tv.Den)
 | [] => [(k, x)]
 | p :: l => if keyEq tk k p.1 = true then (p.1, x) :: l else p :: updL k x l
def Ty.isAggT : Ty → Bool
 | .agg _ => true
 | _ => false
def AV.isAggV : AV → Bool
 | .agg _ => true
 | _ => false
def okV (ok b : Bool) (v : AV) : AV := if ok = true then .tuple [v, .d .bool b] else v
def lookupO (E : Env) (tkid teid : Nat) (k : AV) (ok : Bool) : Option Obj → Option AV
 | some (.mp tk tv kvs) => (E.tab tkid).bind fun ki => (E.tab teid).bind fun te => if keyD ki.desc tk = true ∧ te.isAgg = tv.isAggT then (asDen tk k).bind fun key => match findL key kvs with
   | some x => (mkV te (flat tv x)).map (okV ok true)
   | none => (zeros E.tab 8 teid).bind fun z => (mkV te z).map (okV ok false)
  else none
 | _ => none
def lookupT (E : Env) (h : Heap) (T : Nat) (m k : AV) (ok : Bool) : Option AV :=
 (E.tab T).bind fun ti => match ti.desc, m with
  | .map tkid teid, .mp id => lookupO E tkid teid k ok (h.get id)
  | _, _ => none
def updO (E : Env) (tkid : Nat) (k v : AV) : Option Obj → Option Obj
 | some (.mp tk tv kvs) => (E.tab tkid).bind fun ki => if keyD ki.desc tk = true ∧ v.isAggV = tv.isAggT ∧ v.isUndef = false then (asDen tk k).bind fun key => (unflat tv v.cells).bind fun x => if x.2.isEmpty = true then some (.mp tk tv (updL key x.1 kvs)) else none
  else none
 | _ => none
def mapUpdate (E : Env) (st : St) (T : Nat) (m k v : AV) : Option St :=
 (E.tab T).bind fun ti => match ti.desc, m with
  | .map tkid _, .mp id => (updO E tkid k v (st.heap.get id)).map fun o => ⟨st.tmps, st.heap.put id o⟩
  | _, _ => none
def hintOk (st : St) : Option Operand → Bool
 | none => true
 | some x => match eval st x with
  | .d (.int _) _ => true
  | _ => false
def makeMap (E : Env) (st : St) (id T : Nat) (r : Option Operand) : Option (AV × St) :=
 if hintOk st r = true then (E.tab T).bind fun ti => match ti.desc with
  | .map k e => (E.ty k).bind fun tk => (E.ty e).map fun tv => (.mp id, st.alloc id (.mp tk tv []))
  | _ => none
 else none

def optInt (st : St) : Option Operand → Option (Option Int)
 | none => some none
 | some x => match eval st x with
  | .d (.int _) n => some (some n)
  | _ => none

def pureOp : Op → Bool
 | .move _ | .assign _ | .pick _ _ _ | .build _ _ | .load _ _ | .nilCheck _ | .binOp _ _ _ _ _ | .unOp _ _ _ | .convert _ _ _ | .makeFunc _ _ _ | .slice _ _ _ _ _ | .fieldAddr _ _ _ | .field _ _ _ | .indexAddr _ _ _ | .index _ _ _ | .extract _ _ | .lookup _ _ _ _ => true
 | .call c => match c.callee with
  | .builtin .len => true
  | .builtin .min => true
  | .builtin .max => true
  | _ => false
 | _ => false

def keepsOp (by_ : Nat → List Nat) : Op → Bool
 | .alloc _ | .box _ _ | .buildSlice _ _ _ | .makeMap _ _ | .makeSlice _ _ _ => true
 | .call c => match c.callee with
  | .value (.func g) => (by_ g).isEmpty
  | _ => pureOp (.call c)
 | o => pureOp o

def strAt (b : ByteArray) (i : Nat) : Int := if h : i < b.size then ((b[i]'h).toNat : Int) else 0

def index (E : Env) (T : Nat) (x : AV) (n : Int) : Option AV :=
 (E.tab T).bind fun ti => match ti.desc, x with
  | .str, .d .str b => if 0 ≤ n ∧ n < b.size then some (.d (.int .u8) (strAt b n.toNat)) else none
  | .arr m e, .agg vs => (E.tab e).bind fun te => if 0 ≤ n ∧ n < m ∧ n.toNat * te.size + te.size ≤ vs.length then mkV te ((vs.drop (n.toNat * te.size)).take te.size) else none
  | _, _ => none

def Ty.eqb : Ty → Bool
 | .int _ | .bool | .str | .nil => true
 | .cons a b => a.eqb && b.eqb
 | .agg l => l.eqb
 | _ => false
def eqCell : TD → Option AV → Option AV → Option Bool
 | .int _, some (.d (.int k) a), some (.d (.int k') b) => if k = k' then some (decide (a = b)) else none
 | .bool, some (.d .bool a), some (.d .bool b) => some (a == b)
 | .str, some (.d .str a), some (.d .str b) => some (a.toList == b.toList)
 | _, _, _ => none
def eqFields (tab : Nat → Option TI) (xs ys : List AV) : List (Nat × Nat) → Option Bool
 | [] => some true
 | f :: fs => (tab f.2).bind fun tf => (eqCell tf.desc xs[f.1]? ys[f.1]?).bind fun b => (eqFields tab xs ys fs).map fun r => b && r

def cmpNil : TD → AV → AV → Option Bool
 | .ptr _, .nilP, .nilP => some true
 | .ptr _, .nilP, .op _ _ => some false
 | .ptr _, .nilP, .el _ _ _ => some false
 | .ptr _, .nilP, .rp _ => some false
 | .ptr _, .op _ _, .nilP => some false
 | .ptr _, .el _ _ _, .nilP => some false
 | .ptr _, .rp _, .nilP => some false
 | .slice _, .nilS, .nilS => some true
 | .slice _, .d (.slice _) xs, .nilS => if List.length xs = 0 then none else some false
 | _, _, _ => none
def boolOf (op : BinOp) (b : Bool) : Option AV := match op with
 | .eql => some (.d .bool b)
 | .neq => some (.d .bool !b)
 | _ => none
def binOpT (E : Env) (op : BinOp) (T : Nat) (x y : AV) : Option AV := match x with
 | .d .bool a => (E.tab T).bind fun ti => match ti.desc with
  | .bool => binOp op (.d .bool a) y
  | _ => none
 | .d (.int k) a => binOp op (.d (.int k) a) y
 | .d .str a => binOp op (.d .str a) y
 | .agg xs => (E.tab T).bind fun ti => (E.ty T).bind fun t => if t.eqb = true then match ti.desc, y with
  | .struct fs, .agg ys => (eqFields E.tab xs ys fs).bind (boolOf op)
  | _, _ => none
  else none
 | x => (E.tab T).bind fun ti => (cmpNil ti.desc x y).bind (boolOf op)

def osNil (op : BinOp) (h : Heap) (p : Pl) (ti : TI) : Option AV := match ti.desc with
 | .slice _ => match h.arrAt p with
  | some (.d (.slice _) xs) => if List.length xs = 0 then none else boolOf op false
  | _ => none
 | _ => none
def binOpH (E : Env) (h : Heap) (op : BinOp) (T : Nat) (x y : AV) : Option AV := match x with
 | .os p => match y with
  | .nilS => (E.tab T).bind (osNil op h p)
  | y => binOpT E op T (.os p) y
 | x => binOpT E op T x y

def convertT (E : Env) (h : Heap) (src dst : Nat) (x : AV) : Option AV :=
 (E.tab src).bind fun ts => (E.tab dst).bind fun td => match td.desc, x with
  | .int k, .d (.int _) n => some (.d (.int k) (k.wrap n))
  | .str, .d .str b => some (.d .str b)
  | .str, y => match ts.desc with
   | .slice e => (E.tab e).bind fun te => match te.desc with
    | .int .u8 => (listOf h (.int .u8) y).map fun xs => .d .str (bytesS xs)
    | _ => none
   | _ => none
  | _, _ => none

def extreme (op : BinOp) : AV → AV → Option AV
 | .d (.int k) a, .d (.int k') b => if k = k' then some (.d (.int k) (match op with | .lss => min a b | _ => max a b)) else none
 | _, _ => none

def exVal (E : Env) (st : St) : Op → Option AV
 | .move x => some (eval st x)
 | .assign x => some (eval st x)
 | .pick c x y => match eval st c with
  | .d .bool b => some (if b = true then eval st x else eval st y)
  | _ => none
 | .build T parts => build E T (parts.toList.map fun p => (p.1, eval st p.2))
 | .load T p => loadAt E st.heap T (eval st p)
 | .nilCheck x => match eval st x with
  | .rp vs => some (.rp vs)
  | .op i off => some (.op i off)
  | .el p j off => some (.el p j off)
  | _ => none
 | .binOp op T x y _ => binOpH E st.heap op T (eval st x) (eval st y)
 | .unOp op _ x => unOp op (eval st x)
 | .convert src dst x => convertT E st.heap src dst (eval st x)
 | .makeFunc (.func f) first caps => if first.toList.isEmpty then some (.fn f (caps.toList.map (eval st))) else none
 | .slice T x lo hi mx => (optInt st lo).bind fun l => (optInt st hi).bind fun h => (optInt st mx).bind fun m => sliceT E st.heap T (eval st x) l h m
 | .fieldAddr T x j => fieldAddr E T (eval st x) j
 | .field T x j => field E T (eval st x) j
 | .indexAddr T x i => match eval st i with
  | .d (.int _) n => indexAddr E st.heap T (eval st x) n
  | _ => none
 | .index T x i => match eval st i with
  | .d (.int _) n => index E T (eval st x) n
  | _ => none
 | .extract x j => match eval st x with
  | .tuple vs => vs[j]?
  | _ => none
 | .lookup T x k ok => lookupT E st.heap T (eval st x) (eval st k) ok
 | .call c => match c.callee with
  | .builtin .len => match c.args.toList, c.argTypes.toList with
   | [x], [T] => (lenT E T st.heap (eval st x)).map fun n => .d (.int .i64) n
   | _, _ => none
  | .builtin .min => match c.args.toList with
   | [x, y] => extreme .lss (eval st x) (eval st y)
   | _ => none
  | _ => none
 | _ => none

def bld4 (e : Nat) (te : TI) : Option Nat := match te.desc with
 | .int k => if k = .u8 then some e else none
 | _ => none
def bld3 (tab : Nat → Option TI) (tb : TI) : Option Nat := match tb.desc with
 | .slice e => (tab e).bind (bld4 e)
 | _ => none
def bld2 (tab : Nat → Option TI) (T b : Nat) (ta : TI) : Option Nat := match ta.desc with
 | .ptr x => if x = T then (tab b).bind (bld3 tab) else none
 | _ => none
def bld1 (tab : Nat → Option TI) (T : Nat) : List (Nat × Nat) → Option Nat
 | [] => none
 | f :: fs => match fs with
  | [] => none
  | g :: gs => if gs.isEmpty = true ∧ f.1 = 0 ∧ g.1 = 1 then (tab f.2).bind (bld2 tab T g.2) else none
def bldOf (tab : Nat → Option TI) (T : Nat) (ti : TI) : Option Nat := match ti.desc with
 | .struct fs => bld1 tab T fs
 | _ => none
def varOf (T : Nat) (z : List AV) : Option Nat → Obj
 | some e => match z with
  | [.nilP, .nilS] => .bld false T e .empty
  | z => .box z
 | none => .box z
def varObj (tab : Nat → Option TI) (T : Nat) (ti : TI) (z : List AV) : Obj := varOf T z (bldOf tab T ti)

def newId (d : Option Nat) : Nat := 64 * ((d.getD 9999) % 10000)

def exWrite (E : Env) (st : St) (id : Nat) : Op → Option (AV × St)
 | .box T x => (E.tab T).bind fun ti => if (eval st x).isUndef = false ∧ (eval st x).cells.length = ti.size then some (.op id 0, st.alloc id (.box (eval st x).cells)) else none
 | .alloc T => (E.tab T).bind fun ti => (zeros E.tab 8 T).bind fun z => some (.op id 0, st.alloc id (varObj E.tab T ti z))
 | .buildSlice T len parts => buildSlice E st id T len (parts.toList.map fun p => (p.1, eval st p.2))
 | .store T p x => (storeAt E st T (eval st p) (eval st x)).map fun s => (.undef, s)
 | .makeMap T r => makeMap E st id T r
 | .mapUpdate T m k x => (mapUpdate E st T (eval st m) (eval st k) (eval st x)).map fun s => (.undef, s)
 | .insert T m k x => (mapUpdate E st T (eval st m) (eval st k) (eval st x)).map fun s => (.undef, s)
 | .makeSlice T l c => match eval st l, eval st c with
  | .d (.int _) n, .d (.int _) m => makeSlice E st id T n m
  | _, _ => none
 | .call c => match c.callee with
  | .builtin .append => match c.args.toList, c.argTypes.toList with
   | [x, y], [T, T2] => append E st id T T2 (eval st x) (eval st y)
   | _, _ => none
  | .builtin .copy => match c.args.toList, c.argTypes.toList with
   | [x, y], [T, T2] => copy E st T T2 (eval st x) (eval st y)
   | _, _ => none
  | .builtin .clear => match c.args.toList, c.argTypes.toList with
   | [x], [T] => clear E st T (eval st x)
   | _, _ => none
  | .value f => match eval st f with
   | .fn g caps => callG E st id g (c.args.toList.map (eval st) ++ caps)
   | _ => none
  | _ => none
 | _ => none

def exOp (E : Env) (o : Oper) (st : St) : Option St :=
 if pureOp o.op = true then (exVal E st o.op).map (st.put o.dst) else (exWrite E st (newId o.dst) o.op).map fun r => r.2.put o.dst r.1

def guardSlot (ops : List Oper) (j : Nat) : Option Nat := (ops[j]?).bind (·.dst)

def runOps (E : Env) (ops : List Oper) : List Oper → St → Option St
 | [], st => some st
 | o :: rest, st => match o.guard with
  | none => (exOp E o st).bind (runOps E ops rest)
  | some (j, b) => (guardSlot ops j).bind fun g => match st.get g with
   | .d .bool x => if x = b then (exOp E o (st.set g (.d .bool b))).bind (runOps E ops rest) else runOps E ops rest ((st.set g (.d .bool (!b))).put o.dst .skip)
   | .skip => runOps E ops rest (st.put o.dst .skip)
   | _ => none

inductive Ex where
 | normal
 | exit (id : Nat)
 | ret
 deriving DecidableEq

def dropAll : List Nat → Slots → Slots
 | [], s => s
 | t :: ts, s => dropAll ts (s.drop t)

mutual
def AV.leads (id : Nat) : AV → Bool
 | .os p => p.id == id
 | .sub p _ _ => p.id == id
 | .el p _ _ => p.id == id
 | .op i _ => i == id
 | .mp i => i == id
 | .rp vs => AV.leadss id vs
 | .agg vs => AV.leadss id vs
 | .tuple vs => AV.leadss id vs
 | .fn _ vs => AV.leadss id vs
 | _ => false
def AV.leadss (id : Nat) : List AV → Bool
 | [] => false
 | v :: vs => AV.leads id v || AV.leadss id vs
end
def Slots.leads (id : Nat) : Slots → Bool
 | [] => false
 | (_, v) :: s => v.leads id || Slots.leads id s
def Heap.leads (id : Nat) : Heap → Bool
 | [] => false
 | (_, .box vs) :: h => AV.leadss id vs || Heap.leads id h
 | (_, .arr _ _ _ _) :: h => Heap.leads id h
 | (_, .mp _ _ _) :: h => Heap.leads id h
 | (_, .bld _ _ _ _) :: h => Heap.leads id h
 | (_, .dead) :: h => Heap.leads id h
def Heap.keepIf (f : Nat → Bool) : Heap → Heap
 | [] => []
 | (i, o) :: h => if f i then (i, o) :: Heap.keepIf f h else Heap.keepIf f h
def gc1 (s : Slots) (h : Heap) : Heap := h.keepIf fun i => decide (lentFrom ≤ i) || Slots.leads i s || Heap.leads i h
def St.gc : St → St
 | ⟨s, []⟩ => ⟨s, []⟩
 | ⟨s, x :: h⟩ => ⟨s, gc1 s (gc1 s (x :: h))⟩

def nLoops : Code → Nat
 | .seq a b => nLoops a + nLoops b
 | .cond _ a b => nLoops a + nLoops b
 | .block _ c => nLoops c
 | .loop c => nLoops c + 1
 | .scope c => nLoops c
 | _ => 0
def loopIn : Code → Nat → Option Code
 | .seq a b, k => if k < nLoops a then loopIn a k else loopIn b (k - nLoops a)
 | .cond _ a b, k => if k < nLoops a then loopIn a k else loopIn b (k - nLoops a)
 | .block _ c, k => loopIn c k
 | .loop c, k => if k = 0 then some c else loopIn c (k - 1)
 | .scope c, k => loopIn c k
 | _, _ => none

inductive NilAt where
 | slot (s id : Nat) (t : Ty)
 | cell (s c id : Nat) (t : Ty)
 | box (b c id : Nat) (t : Ty)

structure Ann where
 drops : List (Nat × List Nat)
 ord : List (Nat × List Nat)
 nils : List (Nat × List NilAt)
 early : List (Nat × List Nat) := []
 plain : List (Nat × List Nat) := []
 forks : List (Nat × List (List Nat)) := []
 homes : List (Nat × List Nat) := []
 subs : List (Nat × List Nat) := []
 soft : List (Nat × List (Nat × Nat × Ty)) := []

def boxedF (id : Nat) (vs : List AV) : AV → AV
 | .os p => if p.id = id then .undef else .os p
 | .sub p a n => if p.id = id then .undef else .sub p a n
 | .el p i off => if p.id = id then .undef else .el p i off
 | .op i off => if i = id then .rp (vs.drop off) else .op i off
 | .mp i => if i = id then .undef else .mp i
 | v => v
def St.freezeB (st : St) (id : Nat) (vs : List AV) : St := ⟨Slots.mapR (boxedF id vs) st.tmps, (Heap.mapR (boxedF id vs) st.heap).put id .dead⟩
def plainB (s : Slots) (h : Heap) (id : Nat) : Option Obj → St
 | some (.box vs) => if AV.owneds vs = false then St.freezeB ⟨s, h⟩ id vs else ⟨s, h⟩
 | _ => ⟨s, h⟩
def plainF (id : Nat) : Option (List AV × St) → St → St
 | some r, _ => plainB r.2.tmps r.2.heap id (r.2.heap.get id)
 | none, st => st
def plainO (s : Slots) (h : Heap) (id : Nat) : Option Obj → St
 | some (.box vs) => plainF id (freezes 8 ⟨s, h⟩ vs) ⟨s, h⟩
 | _ => ⟨s, h⟩
def plainG : Option (List AV × St) → St → St
 | some r, _ => r.2
 | none, st => st
def plainA (s : Slots) (h : Heap) : AV → St
 | .op id 0 => plainO s h id (h.get id)
 | v => plainG (freezes 8 ⟨s, h⟩ v.cells) ⟨s, h⟩
def plain1 (st : St) (t : Nat) : St := plainA st.tmps st.heap (st.get t)
def plains : List Nat → St → St
 | [], st => st
 | t :: ts, st => plains ts (plain1 st t)

def Pl.to (id home : Nat) : Pl → Pl
 | .t i => .t (if i = id then home else i)
 | .n i j off => .n (if i = id then home else i) j off
def homeF (id home : Nat) : AV → AV
 | .os p => if p.id = home then .undef else .os (p.to id home)
 | .sub p a n => if p.id = home then .undef else .sub (p.to id home) a n
 | .el p i off => if p.id = home then .undef else .el (p.to id home) i off
 | .op i off => if i = home then .undef else .op (if i = id then home else i) off
 | .mp i => if i = home then .undef else .mp (if i = id then home else i)
 | v => v
def Heap.sans (a b : Nat) : Heap → Heap
 | [] => []
 | (i, o) :: h => if i = a ∨ i = b then Heap.sans a b h else (i, o) :: Heap.sans a b h
def St.moveTo (st : St) (id home : Nat) (o : Obj) : St := ⟨Slots.mapR (homeF id home) st.tmps, (Heap.sans id home (Heap.mapR (homeF id home) st.heap)).put home (o.mapR (homeF id home))⟩
def homeO (st : St) (id home : Nat) : Option Obj → St
 | some o => if id ≠ home ∧ id < lentFrom ∧ home < lentFrom then St.moveTo st id home o else st
 | none => st
def homeV (st : St) (home : Nat) : AV → St
 | .os (.t id) => homeO st id home (st.heap.get id)
 | .op id _ => homeO st id home (st.heap.get id)
 | .mp id => homeO st id home (st.heap.get id)
 | _ => st
def homeAt (st : St) (home : Nat) : Option AV → St
 | some (.os (.t id)) => homeO st id home (st.heap.get id)
 | some (.sub (.t id) _ _) => homeO st id home (st.heap.get id)
 | _ => st
def homeBox (st : St) (home c : Nat) : Option Obj → St
 | some (.box vs) => homeAt st home (getL vs c)
 | _ => st
def homeCell (st : St) (home c : Nat) : AV → St
 | .op id _ => homeBox st home c (st.heap.get id)
 | _ => st
def homeT (st : St) (t : Nat) : St := if t < 10000 then homeV st (64 * t) (st.get t) else homeCell st (64 * (t % 10000) + t / 10000) (t / 10000 - 1) (st.get (t % 10000))
def homes : List Nat → St → St
 | [], st => st
 | t :: ts, st => homes ts (homeT st t)

def subV (st : St) (t : Nat) : AV → St
 | .os p => match st.heap.arrAt p with
  | some (.d (.slice _) xs) => st.set t (.sub p 0 (List.length xs))
  | _ => st
 | _ => st
def subs : List Nat → St → St
 | [], st => st
 | t :: ts, st => subs ts (subV st t (st.get t))

def softA (t : Ty) : AV → AV
 | .nilS => .d (.slice t) []
 | .empS => .d (.slice t) []
 | v => v
def softAt (t : Ty) : Nat → List AV → List AV
 | _, [] => []
 | 0, v :: vs => softA t v :: vs
 | n + 1, v :: vs => v :: softAt t n vs
def softV (c : Nat) (t : Ty) : AV → AV
 | .rp vs => .rp (softAt t c vs)
 | .agg vs => .agg (softAt t c vs)
 | v => if c = 0 then softA t v else v
def softs : List (Nat × Nat × Ty) → St → St
 | [], st => st
 | (s, c, t) :: l, st => softs l (st.set s (softV c t (st.get s)))

def setL : Nat → AV → List AV → List AV
 | _, _, [] => []
 | 0, v, _ :: vs => v :: vs
 | n + 1, v, u :: vs => u :: setL n v vs
def emptyArr (id : Nat) (t : Ty) (st : St) : St := st.alloc id (.arr true t.refs t [])
def unnil1 : NilAt → St → St
 | .slot s id t, st => match st.get s with
  | .nilS => if id < lentFrom then (emptyArr id t st).set s (.os (.t id)) else st
  | _ => st
 | .cell s c id t, st => match st.get s with
  | .agg vs => match getL vs c with
   | some .nilS => if id < lentFrom then (emptyArr id t st).set s (.agg (setL c (.os (.t id)) (AV.mapRs (killF id) vs))) else st
   | _ => st
  | _ => st
 | .box b c id t, st => match st.heap.get b with
  | some (.box vs) => match getL vs c with
   | some .nilS => if id < lentFrom ∧ b ≠ id then ⟨(emptyArr id t st).tmps, (emptyArr id t st).heap.put b (.box (setL c (.os (.t id)) (AV.mapRs (killF id) vs)))⟩ else st
   | _ => st
  | _ => st
def unnil : List NilAt → St → St
 | [], st => st
 | n :: ns, st => unnil ns (unnil1 n st)
def Ann.enter (A : Ann) (k : Nat) (st : St) : St := match lookT A.nils k with
 | some ns => (unnil ns st).gc
 | none => st.gc

def orderOf (A : Ann) (id : Nat) (ops : Array Oper) (draw : Bool) : List Oper :=
 if draw = true then match lookT A.ord id with
  | some l => l.filterMap (ops.toList[·]?)
  | none => ops.toList
 else ops.toList

def Ann.before (A : Ann) (id : Nat) (draw : Bool) (st : St) : St := if draw = true then match lookT A.early id with
  | some ts => ⟨dropAll ts st.tmps, st.heap⟩
  | none => st
 else st
def sameL (h1 h2 : Heap) : List Nat → Prop
 | [] => True
 | i :: l => h1.get i = h2.get i ∧ sameL h1 h2 l
def agree (s1 s2 : St) : Prop := s1.tmps = s2.tmps ∧ sameL s1.heap s2.heap (s1.heap.map (·.1) ++ s2.heap.map (·.1))
open Classical in
noncomputable def forkTo (s1 : St) : Option St → Option St
 | some s2 => if agree s1 s2 then some s1 else none
 | none => none
open Classical in
noncomputable def forksOf (E : Env) (ops : List Oper) (st : St) : List (List Oper) → Option St → Option St
 | [], r => r
 | os :: L, r => forksOf E ops st L (r.bind fun s1 => forkTo s1 (runOps E ops os st))
def otherOrders (A : Ann) (id : Nat) (ops : Array Oper) (draw : Bool) : List (List Oper) :=
 if draw = true then ((lookT A.forks id).getD []).map fun l => l.filterMap (ops.toList[·]?) else []
noncomputable def prun (E : Env) (loop : Nat → St → Option (Ex × St)) (A : Ann) : Nat → Code → St → Option (Ex × St)
 | _, .skip, st => some (.normal, st)
 | _, .region id ops draw, st => (forksOf E ops.toList (A.before id draw st) (otherOrders A id ops draw) (runOps E ops.toList (orderOf A id ops draw) (A.before id draw st))).map fun s => (.normal, Q.softs ((lookT A.soft id).getD []) (Q.subs ((lookT A.subs id).getD []) (Q.homes ((lookT A.homes id).getD []) (plains ((lookT A.plain id).getD []) ⟨dropAll ((lookT A.drops id).getD []) s.tmps, s.heap⟩))))
 | k, .seq a b, st => (prun E loop A k a st).bind fun r => match r.1 with
  | .normal => prun E loop A (k + nLoops a) b r.2
  | _ => some r
 | k, .cond c a b, st => match eval st c with
  | .d .bool x => match c with
   | .tmp t => if x = true then prun E loop A k a ⟨st.tmps.drop t, st.heap⟩
     else prun E loop A (k + nLoops a) b ⟨st.tmps.drop t, st.heap⟩
   | _ => if x = true then prun E loop A k a st else prun E loop A (k + nLoops a) b st
  | _ => none
 | k, .block id c, st => (prun E loop A k c st).map fun r => match r.1 with
  | .exit i => if i = id then (.normal, r.2) else r
  | _ => r
 | k, .loop _, st => loop k (A.enter k st)
 | _, .exit id, st => some (.exit id, st)
 | _, .ret, st => some (.ret, st)
 | k, .scope c, st => prun E loop A k c st
 | _, .label _, st => some (.normal, st)
 | _, _, _ => none

def stackOp : Op → Bool
 | .move _ => true
 | .assign _ => true
 | .pick _ _ _ => true
 | .binOp _ _ _ _ _ => true
 | .unOp _ _ _ => true
 | .extract _ _ => true
 | .field _ _ _ => true
 | .build _ _ => true
 | _ => false
def waitsOn (ops : Array Oper) (i : Nat) (D : List Nat) (j : Nat) : Bool := match ops[j]? with
 | some oj => oj.after.any fun e => Region.binds .any e && (e.on == i || D.contains e.on)
 | none => false
def depOn (ops : Array Oper) (i : Nat) : List Nat → List Nat → List Nat
 | [], D => D
 | j :: l, D => depOn ops i l (if waitsOn ops i D j = true then j :: D else D)
def appE (ops : Array Oper) (Ea : List Nat) (o : Oper) : Bool := match o.op with
 | .call c => match c.callee, c.args.toList, c.argTypes.toList with
  | .builtin .append, [.tmp x, _], [_, _] => Ea.any fun e => o.after.any (fun ed => Region.binds .any ed && ed.on == e) && match ops[e]? with
   | some oe => oe.dst == some x && match oe.op with
    | .buildSlice _ _ _ => true
    | _ => false
   | none => false
  | _, _, _ => false
 | _ => false
def freeOn (by_ : Nat → List Nat) (ops : Array Oper) (Ea : List Nat) (listed : Array Bool) (D : List Nat) (i : Nat) : Bool :=
 match ops[i]? with
 | none => false
 | some oi => (D.all fun j => j != i && !listed.getD j true && waitsOn ops i D j) && (List.range ops.size).all fun j => j == i || listed.getD j true || D.contains j || match ops[j]? with
   | some oj => oi.apart ops oj && (keepsOp by_ oj.op || appE ops Ea oj || stackOp oi.op)
   | none => true
def freeOk (by_ : Nat → List Nat) (ops : Array Oper) (Ea : List Nat) (listed : Array Bool) (l : List Nat) (i : Nat) : Bool := freeOn by_ ops Ea listed (depOn ops i l []) i

def earlyOp (o : Oper) : Bool := o.after.isEmpty && o.guard.isNone && match o.op with
 | .alloc _ => true
 | .buildSlice _ n ps => n == 0 && ps.isEmpty
 | _ => false
def earlyIn (ops : Array Oper) (ts : List Nat) : List Nat := (List.range ops.size).filter fun i => match ops[i]? with
 | some o => earlyOp o && match o.dst with
  | some t => ts.contains t && (List.range ops.size).all fun j => j == i || match ops[j]? with
   | some oj => oj.dst != some t
   | none => true
  | none => false
 | none => false
def markAll (listed : Array Bool) : List Nat → Array Bool
 | [] => listed
 | i :: l => (markAll listed l).setIfInBounds i true
def headsOf : List (List Nat) → List Nat
 | [] => []
 | [] :: L => headsOf L
 | (i :: _) :: L => if (headsOf L).contains i then headsOf L else i :: headsOf L
def tailsOf (i : Nat) : List (List Nat) → List (List Nat)
 | [] => []
 | [] :: L => tailsOf i L
 | (j :: l) :: L => if j = i then l :: tailsOf i L else tailsOf i L
def firstOf : List (List Nat) → List Nat
 | [] => []
 | l :: _ => l
def forkOk (ops : Array Oper) (D : List Nat) (L : List (List Nat)) (hs : List Nat) (listed : Array Bool) : Bool :=
 hs.all (fun i => (Region.ready .any ops listed).contains i) &&
  (Region.ready .any ops (markAll listed (D.filter fun e => !hs.contains e))).all (fun j => hs.contains j || D.contains j) &&
  D.all fun e => listed.getD e true || L.all fun l => l.contains e
def pureOk (by_ : Nat → List Nat) (ops : Array Oper) (D : List Nat) (L : List (List Nat)) (listed : Array Bool) : List Nat → Bool
 | [i] => match ops[i]? with
  | some o => pureOp o.op && (Region.ready .any ops listed).contains i && freeOk by_ ops D listed (firstOf (tailsOf i L)) i
  | none => false
 | _ => false
def treeOk (by_ : Nat → List Nat) (ops : Array Oper) (D : List Nat) : Nat → List (List Nat) → Array Bool → Bool
 | 0, L, listed => (Region.ready .any ops listed).isEmpty && L.all (·.isEmpty)
 | n + 1, L, listed => L.all (fun l => !l.isEmpty) && (headsOf L).all (fun i => (ops[i]?).isSome) && (pureOk by_ ops D L listed (headsOf L) || forkOk ops D L (headsOf L) listed) &&
   (headsOf L).all fun i => treeOk by_ ops D n (tailsOf i L) (listed.setIfInBounds i true)

def dstOk (n : Nat) (o : Oper) : Bool := match o.dst with
 | some t => decide (t < n)
 | none => true

def codeOk (by_ : Nat → List Nat) (A : Ann) (n : Nat) : Code → Bool
 | .region id ops draw => ops.toList.all (dstOk n) && (!draw || (let l := (lookT A.ord id).getD (List.range ops.size)
   decide (l.length ≤ ops.size) && Region.noSelect ops && treeOk by_ ops (earlyIn ops ((lookT A.early id).getD [])) l.length (l :: (lookT A.forks id).getD []) (Array.replicate ops.size false)))
 | .seq a b => codeOk by_ A n a && codeOk by_ A n b
 | .cond _ a b => codeOk by_ A n a && codeOk by_ A n b
 | .block _ c => codeOk by_ A n c
 | .loop c => codeOk by_ A n c
 | .scope c => codeOk by_ A n c
 | _ => true

def shrinkF (id a n : Nat) : AV → AV
 | .os p => if p.id = id then .undef else .os p
 | .sub p a' n' => if p.id = id then (if p.isIn = false ∧ a' = a ∧ n' = n then .os (.t id) else .undef) else .sub p a' n'
 | .el p i off => if p.id = id then .undef else .el p i off
 | .op i off => if i = id then .undef else .op i off
 | .mp i => if i = id then .undef else .mp i
 | v => v
def subOf1 : AV → List (Nat × Nat × Nat)
 | .sub (.t id) a n => [(id, a, n)]
 | _ => []
def subsOf : List AV → List (Nat × Nat × Nat)
 | [] => []
 | .agg us :: vs => us.flatMap subOf1 ++ subsOf vs
 | v :: vs => subOf1 v ++ subsOf vs
def shrinks : List (Nat × Nat × Nat) → List AV → Heap → List AV × Heap
 | [], vs, h => (vs, h)
 | (id, a, n) :: l, vs, h => match h.get id with
  | some (.arr true false t xs) => if AV.leadss id vs = true ∧ a + n ≤ xs.length ∧ a < xs.length then shrinks l (AV.mapRs (shrinkF id a n) vs) ((Heap.mapR (shrinkF id a n) h).put id (.arr true false t ((xs.drop a).take n))) else shrinks l vs h
  | _ => shrinks l vs h

def resultVar (E : Env) (st : St) : ResultVar → Option AV
 | .tmp t => some (st.get t)
 | .cell a T => loadAt E st.heap T (st.get a)

def tupleOf : List AV → AV
 | [u] => u
 | us => .tuple us
def leave (r : List AV × Heap) : AV × Heap := (tupleOf r.1, (St.gc ⟨[(0, .tuple r.1)], r.2⟩).heap)

def finish (E : Env) (f : Func) (st : St) : Option (AV × Heap) :=
 (mapO (resultVar E st) f.results.toList).map fun vs => leave (shrinks (subsOf vs) vs st.heap)

def bind0 : Nat → List AV → Slots
 | _, [] => []
 | i, v :: vs => (i, v) :: bind0 (i + 1) vs

structure Prog where
 tab : Nat → Option TI
 ty : Nat → Option Ty
 byref : Nat → List Nat
 fn : Nat → Option Func
 ann : Nat → Ann
 given : CallF

noncomputable def Prog.env (p : Prog) (call : CallF) : Env := ⟨p.tab, p.ty, p.byref, call⟩

noncomputable def runFn (E : Env) (loop : Nat → St → Option (Ex × St)) (A : Ann) (f : Func) (vs : List AV) (h : Heap) : Option (AV × Heap) :=
 if vs.length ≤ f.ntmps then
  f.body.bind fun c => (prun E loop A 0 c ⟨bind0 0 vs, h⟩).bind fun r => match r.1 with
   | .exit _ => none
   | _ => finish E f r.2
 else none

noncomputable def runLoop (E : Env) (loop : Nat → St → Option (Ex × St)) (A : Ann) (f : Func) (k : Nat) (st : St) : Option (Ex × St) :=
 f.body.bind fun b => (loopIn b k).bind fun c => (prun E loop A (k + 1) c st).bind fun r => match r.1 with
  | .normal => loop k (A.enter k r.2)
  | _ => some r

noncomputable def sem (p : Prog) : Nat → CallF × (Nat → Nat → St → Option (Ex × St))
 | 0 => (fun _ _ _ => none, fun _ _ _ => none)
 | n + 1 =>
  (fun f vs h => match p.fn f with
   | none => p.given f vs h
   | some F => runFn (p.env (sem p n).1) ((sem p n).2 f) (p.ann f) F vs h,
   fun f k st => match p.fn f with
   | none => none
   | some F => runLoop (p.env (sem p n).1) ((sem p n).2 f) (p.ann f) F k st)

open Classical in
noncomputable def lim {α : Type} (g : Nat → Option α) : Option α := if h : ∃ n r, g n = some r then g h.choose else none

noncomputable def callOf (p : Prog) (f : Nat) (vs : List AV) (h : Heap) : Option (AV × Heap) := lim fun n => (sem p n).1 f vs h
noncomputable def loopOf (p : Prog) (f k : Nat) (st : St) : Option (Ex × St) := lim fun n => (sem p n).2 f k st

def cloneV (t : Ty) (xs : List t.Den) : AV × Heap := if xs.length = 0 then (.empS, []) else (.os (.t 64), [(64, .arr true false t xs)])
end Go.Q
