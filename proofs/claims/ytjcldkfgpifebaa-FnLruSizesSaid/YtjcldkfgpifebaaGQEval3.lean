/- An abstract interpreter of the translated code: equations for calls, appends, what is built. -/
import Derived.Test.YtjcldkfgpifebaaGQEval2
namespace Go.Q
set_option linter.unusedVariables false
set_option linter.unusedSimpArgs false
set_option linter.unusedSectionVars false
open Go
section
variable {E : Env} {s : Slots} {h : Heap}
/-! calls -/
def backK (po : Bool) (base : Nat) (s : Slots) (h : Heap) (ls : List Ln) (r : AV × Heap) : Option (AV × St) := if (po && (r.1.shares || r.2.shares)) = true then none else back ⟨s, h⟩ base ls r
theorem backK_mk (po : Bool) (base : Nat) (ls : List Ln) (v : AV) (h' : Heap) : backK po base s h ls (v, h') = if (po && (v.shares || Heap.shares h')) = true then none else back ⟨s, h⟩ base ls (v, h') := rfl
def callK (E : Env) (g base : Nat) (s : Slots) (h : Heap) (po : Bool) (x : List Ln × List AV × Heap) : Option (AV × St) := (E.call g x.2.1 x.2.2).bind (backK po base s h x.1)
theorem callK_mk (g base : Nat) (po : Bool) (ls : List Ln) (us : List AV) (hl : Heap) : callK E g base s h po (ls, us, hl) = (E.call g us hl).bind (backK po base s h ls) := rfl
theorem callG_eq (base g : Nat) (vs : List AV) : callG E ⟨s, h⟩ base g vs = (callPre (E.byref g) ⟨s, h⟩ vs).bind (callK E g base s h (plainOwned (E.byref g) 0 vs)) := rfl
def pre3 (ls : List Ln) (us : List AV) (hl : Heap) : List Ln × List AV × Heap := (ls, us, hl)
theorem pre3_eq (ls : List Ln) (us : List AV) (hl : Heap) : pre3 ls us hl = (ls, us, hl) := rfl
def pre2 (h : Heap) (ls : List Ln) (us : List AV) : Option (List Ln × List AV × Heap) := (lentHeap h ls lentFrom ls).map (pre3 ls us)
theorem pre2_eq (ls : List Ln) (us : List AV) : pre2 h ls us = (lentHeap h ls lentFrom ls).map (pre3 ls us) := rfl
def pre1 (by_ : List Nat) (h : Heap) (vs : List AV) (ls : List Ln) : Option (List Ln × List AV × Heap) := if nodupN (ls.map Ln.id) = true then (argsOf (h.bury ls) ls by_ 0 vs).bind (pre2 h ls) else none
theorem pre1_eq (by_ : List Nat) (vs : List AV) (ls : List Ln) : pre1 by_ h vs ls = if nodupN (ls.map Ln.id) = true then (argsOf (h.bury ls) ls by_ 0 vs).bind (pre2 h ls) else none := rfl
theorem callPre_eq (by_ : List Nat) (vs : List AV) : callPre by_ ⟨s, h⟩ vs = pre1 by_ h vs (closure h 60 (refsOfs (byRefs by_ 0 vs)) []) := rfl
theorem byRefs0 (by_ : List Nat) (k : Nat) : byRefs by_ k [] = [] := rfl
theorem byRefs_cons (by_ : List Nat) (k : Nat) (v : AV) (vs : List AV) : byRefs by_ k (v :: vs) = if by_.contains k = true then v :: byRefs by_ (k + 1) vs else byRefs by_ (k + 1) vs := rfl
theorem byRefs_none : ∀ (k : Nat) (vs : List AV), byRefs [] k vs = []
  | _, [] => rfl
  | k, v :: vs => by rw [byRefs_cons, if_neg (by simp)]; exact byRefs_none (k + 1) vs
theorem plainOwned_nil (by_ : List Nat) (k : Nat) : plainOwned by_ k [] = false := rfl
theorem plainOwned_cons (by_ : List Nat) (k : Nat) (v : AV) (vs : List AV) : plainOwned by_ k (v :: vs) = ((!by_.contains k && v.owned) || plainOwned by_ (k + 1) vs) := rfl
theorem argsOf_nil (ls : List Ln) (by_ : List Nat) (k : Nat) : argsOf h ls by_ k [] = some [] := rfl
def argsOf2 (h : Heap) (ls : List Ln) (by_ : List Nat) (k : Nat) (vs : List AV) (u : AV) : Option (List AV) := (argsOf h ls by_ k vs).map (List.cons u)
theorem argsOf2_eq (ls : List Ln) (by_ : List Nat) (k : Nat) (vs : List AV) (u : AV) : argsOf2 h ls by_ k vs u = (argsOf h ls by_ k vs).map (List.cons u) := rfl
theorem argsOf_cons (ls : List Ln) (by_ : List Nat) (k : Nat) (v : AV) (vs : List AV) : argsOf h ls by_ k (v :: vs) = (if by_.contains k = true then some (v.mapR (lentF ls)) else argOf h 8 v).bind (argsOf2 h ls by_ (k + 1) vs) := rfl
theorem ln_id_a (p : Pl) : Ln.id (.a p) = p.id := rfl
theorem ln_id_b (i : Nat) : Ln.id (.b i) = i := rfl
theorem bury_nil : Heap.bury h [] = h := rfl
theorem bury_cons (l : Ln) (ls : List Ln) : Heap.bury h (l :: ls) = Heap.bury (h.put l.id .dead) ls := rfl
theorem nodupN_nil : nodupN [] = true := rfl
theorem nodupN_cons (x : Nat) (xs : List Nat) : nodupN (x :: xs) = (!xs.contains x && nodupN xs) := rfl
theorem closure_done (n : Nat) (dn : List Ln) : closure h (n + 1) [] dn = dn := rfl
theorem closure_a (n : Nat) (p : Pl) (todo dn : List Ln) : closure h (n + 1) (.a p :: todo) dn = if dn.contains (.a p) = true then closure h n todo dn else closure h n todo (dn ++ [.a p]) := by rw [closure]
def clB (h : Heap) (n : Nat) (todo dn : List Ln) : Option Obj → List Ln
  | some (.box vs) => closure h n (refsOfs vs ++ todo) dn
  | _ => closure h n todo dn
theorem closure_b (n : Nat) (id : Nat) (todo dn : List Ln) : closure h (n + 1) (.b id :: todo) dn = if dn.contains (.b id) = true then closure h n todo dn else clB h n todo (dn ++ [.b id]) (h.get id) := by
  rw [closure]
  simp only [clB]
  split
  · rfl
  · cases h.get id with
    | none => rfl
    | some o => cases o <;> rfl
theorem clB_box (n : Nat) (todo dn : List Ln) (vs : List AV) : clB h n todo dn (some (.box vs)) = closure h n (refsOfs vs ++ todo) dn := rfl
theorem clB_bld (n : Nat) (todo dn : List Ln) (d : Bool) (T e : Nat) (s : ByteArray) : clB h n todo dn (some (.bld d T e s)) = closure h n todo dn := rfl
theorem clB_mp (n : Nat) (todo dn : List Ln) (tk tv : Ty) (kvs : List (tk.Den × tv.Den)) : clB h n todo dn (some (.mp tk tv kvs)) = closure h n todo dn := rfl
theorem ln_ab (p : Pl) (i : Nat) : (Ln.a p = Ln.b i) = False := by simp
theorem ln_ba (p : Pl) (i : Nat) : (Ln.b i = Ln.a p) = False := by simp
theorem ln_aa (p q : Pl) : (Ln.a p = Ln.a q) = (p = q) := by simp
theorem ln_bb (i j : Nat) : (Ln.b i = Ln.b j) = (i = j) := by simp
theorem pl_tt (i j : Nat) : (Pl.t i = Pl.t j) = (i = j) := by simp
theorem pl_tn (i j a b : Nat) : (Pl.t i = Pl.n j a b) = False := by simp
theorem pl_nt (i j a b : Nat) : (Pl.n j a b = Pl.t i) = False := by simp
theorem pl_nn (i a b i' a' b' : Nat) : (Pl.n i a b = Pl.n i' a' b') = (i = i' ∧ a = a' ∧ b = b') := by simp
theorem ln_beq (a b : Ln) : (a == b) = decide (a = b) := rfl
theorem indexL_nil (l : Ln) (k : Nat) : indexL l k [] = none := rfl
theorem indexL_cons (l l' : Ln) (k : Nat) (ls : List Ln) : indexL l k (l' :: ls) = if l' = l then some k else indexL l (k + 1) ls := rfl
def lOs : Option Nat → AV
  | some k => .os (.t k)
  | none => .undef
def lSub (a n : Nat) : Option Nat → AV
  | some k => .sub (.t k) a n
  | none => .undef
def lEl (a n : Nat) : Option Nat → AV
  | some k => .el (.t k) a n
  | none => .undef
def lOp (a : Nat) : Option Nat → AV
  | some k => .op k a
  | none => .undef
def lMp : Option Nat → AV
  | some k => .mp k
  | none => .undef
theorem lentF_os (ls : List Ln) (p : Pl) : lentF ls (.os p) = lOs (indexL (.a p) lentFrom ls) := by simp only [lentF, lOs]; split <;> simp_all
theorem lentF_sub (ls : List Ln) (p : Pl) (a n : Nat) : lentF ls (.sub p a n) = lSub a n (indexL (.a p) lentFrom ls) := by simp only [lentF, lSub]; split <;> simp_all
theorem lentF_el (ls : List Ln) (p : Pl) (a n : Nat) : lentF ls (.el p a n) = lEl a n (indexL (.a p) lentFrom ls) := by simp only [lentF, lEl]; split <;> simp_all
theorem lentF_op (ls : List Ln) (i a : Nat) : lentF ls (.op i a) = lOp a (indexL (.b i) lentFrom ls) := by simp only [lentF, lOp]; split <;> simp_all
theorem lentF_mp (ls : List Ln) (i : Nat) : lentF ls (.mp i) = lMp (indexL (.b i) lentFrom ls) := by simp only [lentF, lMp]; split <;> simp_all
theorem lOs_some (k : Nat) : lOs (some k) = .os (.t k) := rfl
theorem lSub_some (a n k : Nat) : lSub a n (some k) = .sub (.t k) a n := rfl
theorem lEl_some (a n k : Nat) : lEl a n (some k) = .el (.t k) a n := rfl
theorem lOp_some (a k : Nat) : lOp a (some k) = .op k a := rfl
theorem lMp_some (k : Nat) : lMp (some k) = .mp k := rfl
theorem lentHeap_nil (ls : List Ln) (k : Nat) : lentHeap h ls k [] = some [] := rfl
def lentHeap2 (h : Heap) (all : List Ln) (k : Nat) (ls : List Ln) (o : Obj) : Option Heap := (lentHeap h all (k + 1) ls).map (List.cons (k, o))
theorem lentHeap2_eq (all : List Ln) (k : Nat) (ls : List Ln) (o : Obj) : lentHeap2 h all k ls o = (lentHeap h all (k + 1) ls).map (List.cons (k, o)) := rfl
theorem lentHeap_cons (all : List Ln) (k : Nat) (l : Ln) (ls : List Ln) : lentHeap h all k (l :: ls) = (lentObj h all l).bind (lentHeap2 h all k ls) := rfl
theorem lentObj_a (all : List Ln) (p : Pl) : lentObj h all (.a p) = (h.arrAt p).bind (lentArr (h.deepAt p)) := rfl
theorem lentArr_d (d : Bool) (t : Ty) (xs : List t.Den) : lentArr d (.d (.slice t) xs) = some (.arr false d t xs) := rfl
def lentB (all : List Ln) : Option Obj → Option Obj
  | some (.box vs) => some (.box (AV.mapRs (lentF all) vs))
  | some (.mp tk tv kvs) => some (.mp tk tv kvs)
  | some (.bld d T e s) => some (.bld d T e s)
  | _ => none
theorem lentB_bld (all : List Ln) (d : Bool) (T e : Nat) (s : ByteArray) : lentB all (some (.bld d T e s)) = some (.bld d T e s) := rfl
theorem lentObj_b (all : List Ln) (i : Nat) : lentObj h all (.b i) = lentB all (h.get i) := by
  simp only [lentObj, lentB]
  cases h.get i with
  | none => rfl
  | some o => cases o <;> rfl
theorem lentB_box (all : List Ln) (vs : List AV) : lentB all (some (.box vs)) = some (.box (AV.mapRs (lentF all) vs)) := rfl
theorem lentB_mp (all : List Ln) (tk tv : Ty) (kvs : List (tk.Den × tv.Den)) : lentB all (some (.mp tk tv kvs)) = some (.mp tk tv kvs) := rfl
/-! what comes back -/
theorem newIds_nil : newIds [] = [] := rfl
theorem newIds_cons (i : Nat) (o : Obj) (h : Heap) : newIds ((i, o) :: h) = if i < lentFrom then i :: newIds h else newIds h := rfl
theorem indexN_nil (i k : Nat) : indexN i k [] = none := rfl
theorem indexN_cons (i k j : Nat) (js : List Nat) : indexN i k (j :: js) = if j = i then some k else indexN i (k + 1) js := rfl
theorem getL_nil {α : Type} (n : Nat) : getL ([] : List α) n = none := by cases n <;> rfl
theorem getL_zero {α : Type} (x : α) (xs : List α) : getL (x :: xs) 0 = some x := rfl
theorem getL_succ {α : Type} (x : α) (xs : List α) (n : Nat) : getL (x :: xs) (n + 1) = getL xs n := rfl
def lnPl : Option Ln → Option Pl
  | some (.a p) => some p
  | some (.b id) => some (.t id)
  | none => none
theorem lnPl_a (p : Pl) : lnPl (some (.a p)) = some p := rfl
theorem lnPl_b (i : Nat) : lnPl (some (.b i)) = some (.t i) := rfl
theorem backT_eq (base : Nat) (ls : List Ln) (ns : List Nat) (i : Nat) : backT base ls ns i = if i < lentFrom then (indexN i base ns).map .t else lnPl (getL ls (i - lentFrom)) := by
  unfold backT lnPl
  split
  · rfl
  · cases getL ls (i - lentFrom) with
    | none => rfl
    | some l => cases l <;> rfl
def plIn (j off : Nat) : Option Pl → Option Pl
  | some (.t id) => some (.n id j off)
  | _ => none
theorem plIn_t (j off id : Nat) : plIn j off (some (.t id)) = some (.n id j off) := rfl
theorem backP_t (base : Nat) (ls : List Ln) (ns : List Nat) (i : Nat) : backP base ls ns (.t i) = backT base ls ns i := rfl
theorem backP_n (base : Nat) (ls : List Ln) (ns : List Nat) (i j off : Nat) : backP base ls ns (.n i j off) = plIn j off (backT base ls ns i) := by
  unfold backP plIn; rfl
def bOs : Option Pl → AV
  | some q => .os q
  | none => .undef
def bSub (a n : Nat) : Option Pl → AV
  | some q => .sub q a n
  | none => .undef
def bEl (a n : Nat) : Option Pl → AV
  | some q => .el q a n
  | none => .undef
def bOp (a : Nat) : Option Pl → AV
  | some (.t id) => .op id a
  | _ => .undef
def bMp : Option Pl → AV
  | some (.t id) => .mp id
  | _ => .undef
theorem backF_os (base : Nat) (ls : List Ln) (ns : List Nat) (p : Pl) : backF base ls ns (.os p) = bOs (backP base ls ns p) := by simp only [backF, bOs]; split <;> simp_all
theorem backF_sub (base : Nat) (ls : List Ln) (ns : List Nat) (p : Pl) (a n : Nat) : backF base ls ns (.sub p a n) = bSub a n (backP base ls ns p) := by simp only [backF, bSub]; split <;> simp_all
theorem backF_el (base : Nat) (ls : List Ln) (ns : List Nat) (p : Pl) (a n : Nat) : backF base ls ns (.el p a n) = bEl a n (backP base ls ns p) := by simp only [backF, bEl]; split <;> simp_all
theorem backF_op (base : Nat) (ls : List Ln) (ns : List Nat) (i a : Nat) : backF base ls ns (.op i a) = bOp a (backT base ls ns i) := by
  simp only [backF, bOp]
  cases backT base ls ns i with
  | none => rfl
  | some q => cases q <;> rfl
theorem backF_mp (base : Nat) (ls : List Ln) (ns : List Nat) (i : Nat) : backF base ls ns (.mp i) = bMp (backT base ls ns i) := by
  simp only [backF, bMp]
  cases backT base ls ns i with
  | none => rfl
  | some q => cases q <;> rfl
theorem bOs_some (q : Pl) : bOs (some q) = .os q := rfl
theorem bSub_some (a n : Nat) (q : Pl) : bSub a n (some q) = .sub q a n := rfl
theorem bEl_some (a n : Nat) (q : Pl) : bEl a n (some q) = .el q a n := rfl
theorem bOp_some (a i : Nat) : bOp a (some (.t i)) = .op i a := rfl
theorem bMp_some (i : Nat) : bMp (some (.t i)) = .mp i := rfl
def backA : Option Obj → Option Obj → Option Obj
  | some (.arr m _ _ _), some (.arr m' d t xs) => some (.arr (m || m') d t xs)
  | some (.arr _ _ _ _), some .dead => some .dead
  | _, _ => none
def backB (f : AV → AV) : Option Obj → Option Obj → Option Obj
  | some (.box _), some (.box vs) => some (.box (AV.mapRs f vs))
  | some (.mp _ _ _), some (.mp tk tv kvs) => some (.mp tk tv kvs)
  | some (.bld _ _ _ _), some (.bld d T e s) => some (.bld d T e s)
  | _, _ => none
theorem backB_bld (f : AV → AV) (d d' : Bool) (T e T' e' : Nat) (s s' : ByteArray) : backB f (some (.bld d T e s)) (some (.bld d' T' e' s')) = some (.bld d' T' e' s') := rfl
theorem backObj_t (f : AV → AV) (h' : Heap) (k id : Nat) : backObj f h h' k (.a (.t id)) = backA (h.get id) (h'.get k) := by
  simp only [backObj]
  cases h.get id with
  | none => rfl
  | some o =>
    cases h'.get k with
    | none => cases o <;> rfl
    | some o' => cases o <;> cases o' <;> rfl
theorem backObj_b (f : AV → AV) (h' : Heap) (k id : Nat) : backObj f h h' k (.b id) = backB f (h.get id) (h'.get k) := by
  simp only [backObj]
  cases h.get id with
  | none => rfl
  | some o =>
    cases h'.get k with
    | none => cases o <;> rfl
    | some o' => cases o <;> cases o' <;> rfl
theorem backA_arr (m d m' d' : Bool) (t t' : Ty) (xs : List t.Den) (ys : List t'.Den) : backA (some (.arr m d t xs)) (some (.arr m' d' t' ys)) = some (.arr (m || m') d' t' ys) := rfl
theorem backA_dead (m d : Bool) (t : Ty) (xs : List t.Den) : backA (some (.arr m d t xs)) (some .dead) = some .dead := rfl
theorem backB_box (f : AV → AV) (us vs : List AV) : backB f (some (.box us)) (some (.box vs)) = some (.box (AV.mapRs f vs)) := rfl
theorem backB_mp (f : AV → AV) (tk tv tk' tv' : Ty) (k1 : List (tk.Den × tv.Den)) (k2 : List (tk'.Den × tv'.Den)) : backB f (some (.mp tk tv k1)) (some (.mp tk' tv' k2)) = some (.mp tk' tv' k2) := rfl
def backN (i off : Nat) (o : Option Obj) : Option AV → Option Obj → Option Obj
  | some (.d (.slice t') _), some (.arr false false t xs) => if t' = t then o.bind fun o => o.setIn i off t xs else none
  | _, _ => none
theorem backObj_n (f : AV → AV) (h' : Heap) (k id i off : Nat) : backObj f h h' k (.a (.n id i off)) = backN i off (h.get id) (h.arrAt (.n id i off)) (h'.get k) := by
  simp only [backObj]
  cases hg : h.get id with
  | none =>
    simp only [Heap.arrAt, hg]
    rfl
  | some o =>
    simp only [Option.bind_some]
    cases h.arrAt (.n id i off) with
    | none => rfl
    | some v =>
      simp only [Option.bind_some]
      cases h'.get k with
      | none =>
        cases v with
        | d t x => cases t <;> rfl
        | _ => rfl
      | some o' =>
        cases o' with
        | arr m d t xs =>
          cases v with
          | d t' x => cases t' <;> cases m <;> cases d <;> rfl
          | _ => cases m <;> cases d <;> rfl
        | _ =>
          cases v with
          | d t' x => cases t' <;> rfl
          | _ => rfl
def setIn6 (m : Bool) (t : Ty) (xs : List t.Den) (i : Nat) (y : t.Den) : Obj := .arr m true t (xs.set i y)
theorem setIn6_eq (m : Bool) (t : Ty) (xs : List t.Den) (i : Nat) (y : t.Den) : setIn6 m t xs i y = .arr m true t (xs.set i y) := rfl
theorem backN_eq (i off : Nat) (m : Bool) (t : Ty) (xs : List t.Den) (t' t'' : Ty) (ys : List t'.Den) (zs : List t''.Den) : backN i off (some (.arr m true t xs)) (some (.d (.slice t') ys)) (some (.arr false false t'' zs)) = if t' = t'' then (if i < xs.length then ((unflat t ((flat t (xs.getD i t.zero)).set off (.d (.slice t'') zs))).bind oneOnly).map (setIn6 m t xs i) else none) else none := by
  simp only [backN, Option.bind_some]
  split
  · simp only [Obj.setIn]
    split
    · cases unflat t ((flat t (xs.getD i t.zero)).set off (.d (.slice t'') zs)) with
      | none => rfl
      | some y => simp only [Option.bind_some, oneOnly]; split <;> rfl
    · rfl
  · rfl
theorem backObjs_nil (f : AV → AV) (h' : Heap) (k : Nat) : backObjs f h h' k [] = some [] := rfl
def backObjs2 (f : AV → AV) (h h' : Heap) (k id : Nat) (ls : List Ln) (o : Obj) : Option (List (Nat × Obj)) := (backObjs f h h' (k + 1) ls).map (List.cons (id, o))
theorem backObjs2_eq (f : AV → AV) (h' : Heap) (k id : Nat) (ls : List Ln) (o : Obj) : backObjs2 f h h' k id ls o = (backObjs f h h' (k + 1) ls).map (List.cons (id, o)) := rfl
theorem backObjs_cons (f : AV → AV) (h' : Heap) (k : Nat) (l : Ln) (ls : List Ln) : backObjs f h h' k (l :: ls) = (backObj f h h' k l).bind (backObjs2 f h h' k l.id ls) := rfl
theorem newObjs_nil (f : AV → AV) (h' : Heap) (k : Nat) : newObjs f h' k [] = [] := rfl
theorem newObjs_cons (f : AV → AV) (h' : Heap) (k j : Nat) (js : List Nat) : newObjs f h' k (j :: js) = (k, ((h'.get j).getD .dead).mapR f) :: newObjs f h' (k + 1) js := rfl
def movedT (h' : Heap) (k id : Nat) (ls : List Ln) : Option Obj → List Nat
  | some (.arr false _ _ _) => movedIds h' (k + 1) ls
  | _ => id :: movedIds h' (k + 1) ls
theorem moved_nil (h' : Heap) (k : Nat) : movedIds h' k [] = [] := rfl
theorem moved_t (h' : Heap) (k id : Nat) (ls : List Ln) : movedIds h' k (.a (.t id) :: ls) = movedT h' k id ls (h'.get k) := by
  simp only [movedIds, movedT]
  cases h'.get k with
  | none => rfl
  | some o =>
    cases o with
    | arr m d t xs => cases m <;> rfl
    | _ => rfl
theorem moved_n (h' : Heap) (k id i o : Nat) (ls : List Ln) : movedIds h' k (.a (.n id i o) :: ls) = movedIds h' (k + 1) ls := rfl
theorem moved_b (h' : Heap) (k id : Nat) (ls : List Ln) : movedIds h' k (.b id :: ls) = movedIds h' (k + 1) ls := rfl
theorem movedT_still (h' : Heap) (k id : Nat) (ls : List Ln) (d : Bool) (t : Ty) (xs : List t.Den) : movedT h' k id ls (some (.arr false d t xs)) = movedIds h' (k + 1) ls := rfl
theorem movedT_moved (h' : Heap) (k id : Nat) (ls : List Ln) (d : Bool) (t : Ty) (xs : List t.Den) : movedT h' k id ls (some (.arr true d t xs)) = id :: movedIds h' (k + 1) ls := rfl
theorem movedT_dead (h' : Heap) (k id : Nat) (ls : List Ln) : movedT h' k id ls (some .dead) = id :: movedIds h' (k + 1) ls := rfl
theorem whole_nil : wholeIds [] = [] := rfl
theorem whole_t (id : Nat) (ls : List Ln) : wholeIds (.a (.t id) :: ls) = id :: wholeIds ls := rfl
theorem whole_n (id i o : Nat) (ls : List Ln) : wholeIds (.a (.n id i o) :: ls) = wholeIds ls := rfl
theorem whole_b (id : Nat) (ls : List Ln) : wholeIds (.b id :: ls) = id :: wholeIds ls := rfl
theorem upTo_zero (k : Nat) : upTo k 0 = [] := rfl
theorem upTo_succ (k n : Nat) : upTo k (n + 1) = k :: upTo (k + 1) n := rfl
theorem puts_nil : Heap.puts h [] = h := by cases h <;> rfl
theorem puts_cons (i : Nat) (o : Obj) (l : List (Nat × Obj)) : Heap.puts h ((i, o) :: l) = Heap.puts (h.put i o) l := by cases h <;> rfl
def back3 (base : Nat) (s : Slots) (h : Heap) (ls : List Ln) (v : AV) (h' : Heap) (ns lost whole : List Nat) (us : List (Nat × Obj)) : Option (AV × St) :=
  some (v.mapR (backF base ls ns), ⟨Slots.mapR (lostF lost whole) s, ((Heap.mapR (lostF lost whole) (h.bury ls)).puts us).puts (newObjs (backF base ls ns) h' base ns)⟩)
theorem back3_eq (base : Nat) (ls : List Ln) (v : AV) (h' : Heap) (ns lost whole : List Nat) (us : List (Nat × Obj)) : back3 base s h ls v h' ns lost whole us = some (v.mapR (backF base ls ns), ⟨Slots.mapR (lostF lost whole) s, ((Heap.mapR (lostF lost whole) (h.bury ls)).puts us).puts (newObjs (backF base ls ns) h' base ns)⟩) := rfl
def back2 (base : Nat) (s : Slots) (h : Heap) (ls : List Ln) (v : AV) (h' : Heap) (ns : List Nat) : Option (AV × St) :=
  if ns.length ≤ 32 ∧ base + 32 ≤ lentFrom ∧ nodupN ns = true ∧ ls.all (fun l => decide (l.id < base ∨ base + 32 ≤ l.id)) = true then
    (backObjs (backF base ls ns) h h' lentFrom ls).bind (back3 base s h ls v h' ns (movedIds h' lentFrom ls ++ upTo base ns.length) (wholeIds ls)) else none
def apartL (base : Nat) : List Ln → Bool
  | [] => true
  | l :: ls => decide (l.id < base ∨ base + 32 ≤ l.id) && apartL base ls
theorem apartL_nil (base : Nat) : apartL base [] = true := rfl
theorem apartL_cons (base : Nat) (l : Ln) (ls : List Ln) : apartL base (l :: ls) = (decide (l.id < base ∨ base + 32 ≤ l.id) && apartL base ls) := rfl
theorem apartL_all (base : Nat) : ∀ ls : List Ln, ls.all (fun l => decide (l.id < base ∨ base + 32 ≤ l.id)) = apartL base ls
  | [] => rfl
  | l :: ls => by rw [List.all_cons, apartL_cons, apartL_all base ls]
theorem back2_eq (base : Nat) (ls : List Ln) (v : AV) (h' : Heap) (ns : List Nat) : back2 base s h ls v h' ns = if ns.length ≤ 32 ∧ base + 32 ≤ lentFrom ∧ nodupN ns = true ∧ apartL base ls = true then
    (backObjs (backF base ls ns) h h' lentFrom ls).bind (back3 base s h ls v h' ns (movedIds h' lentFrom ls ++ upTo base ns.length) (wholeIds ls)) else none := by
  unfold back2; rw [apartL_all]
theorem back_eq (base : Nat) (ls : List Ln) (v : AV) (h' : Heap) : back ⟨s, h⟩ base ls (v, h') = back2 base s h ls v h' (newIds h') := rfl

/-! what is built -/
def apTo (id : Nat) (t : Ty) (bytes : Nat) (s : Slots) (h : Heap) (x : AV) (ys : List t.Den) : Option (AV × St) := appendTo ⟨s, h⟩ id t bytes ys x
theorem apTo_eq (id : Nat) (t : Ty) (bytes : Nat) (x : AV) (ys : List t.Den) : apTo id t bytes s h x ys = appendTo ⟨s, h⟩ id t bytes ys x := rfl
def elseR (f : Option (AV × St)) : Option (AV × St) → Option (AV × St)
  | some r => some r
  | none => f
theorem elseR_some (f : Option (AV × St)) (r : AV × St) : elseR f (some r) = some r := rfl
def apRest (s : Slots) (h : Heap) (id : Nat) (t : Ty) (bytes : Nat) (x y : AV) : Option (AV × St) :=
  let st1 := freezeInOf ⟨s, h⟩ x
  let st2 := freezeInOf st1 (frozenInOf ⟨s, h⟩ x y)
  let y2 := frozenInOf st1 (frozenInOf ⟨s, h⟩ x y) (frozenInOf ⟨s, h⟩ x y)
  let s2 := frozenInOf st1 (frozenInOf ⟨s, h⟩ x y) (frozenInOf ⟨s, h⟩ x x)
  (listOf st2.heap t y2).bind fun ys => appendTo st2 id t bytes ys s2
def apDeep (s : Slots) (h : Heap) (id : Nat) (t : Ty) (bytes : Nat) (x y : AV) : Option (AV × St) → Option (AV × St)
  | some r => some r
  | none => apRest s h id t bytes x y
theorem apDeep_some (id : Nat) (t : Ty) (bytes : Nat) (x y : AV) (r : AV × St) : apDeep s h id t bytes x y (some r) = some r := rfl
theorem apDeep_none (id : Nat) (t : Ty) (bytes : Nat) (x y : AV) : apDeep s h id t bytes x y none = apRest s h id t bytes x y := rfl
def apTy (s : Slots) (h : Heap) (id bytes : Nat) (x y : AV) (t : Ty) : Option (AV × St) :=
  if t.refs = true then apDeep s h id t bytes x y (appendDeep ⟨s, h⟩ id t bytes x y) else (listOf h t y).bind (apTo id t bytes s h x)
theorem apTy_eq (id bytes : Nat) (x y : AV) (t : Ty) : apTy s h id bytes x y t = if t.refs = true then apDeep s h id t bytes x y (appendDeep ⟨s, h⟩ id t bytes x y) else (listOf h t y).bind (apTo id t bytes s h x) := rfl
def apEl (E : Env) (e : Nat) (s : Slots) (h : Heap) (id : Nat) (x y : AV) (te : TI) : Option (AV × St) := (E.ty e).bind (apTy s h id te.bytes x y)
theorem apEl_mk (e : Nat) (id : Nat) (x y : AV) (td : TD) (n m : Nat) : apEl E e s h id x y ⟨td, n, m⟩ = (E.ty e).bind (apTy s h id m x y) := rfl
def apStr (s : Slots) (h : Heap) (id bytes : Nat) (x y : AV) (t : Ty) : Option (AV × St) := match t, y with
      | .int .u8, .d .str b => appendTo ⟨s, h⟩ id (.int .u8) bytes (bytesL b) x
      | _, _ => none
theorem apStr_eq (id bytes : Nat) (x : AV) (b : ByteArray) : apStr s h id bytes x (.d .str b) (.int .u8) = appendTo ⟨s, h⟩ id (.int .u8) bytes (bytesL b) x := rfl
def apElS (E : Env) (e : Nat) (s : Slots) (h : Heap) (id : Nat) (x y : AV) (te : TI) : Option (AV × St) := (E.ty e).bind (apStr s h id te.bytes x y)
theorem apElS_mk (e : Nat) (id : Nat) (x y : AV) (td : TD) (n m : Nat) : apElS E e s h id x y ⟨td, n, m⟩ = (E.ty e).bind (apStr s h id m x y) := rfl
def ap2 (E : Env) (s : Slots) (h : Heap) (id : Nat) (x y : AV) (ti ti2 : TI) : Option (AV × St) := match ti.desc, ti2.desc with
    | .slice e, .slice _ => (E.tab e).bind (apEl E e s h id x y)
    | .slice e, .str => (E.tab e).bind (apElS E e s h id x y)
    | _, _ => none
def ap1 (E : Env) (s : Slots) (h : Heap) (id T2 : Nat) (x y : AV) (ti : TI) : Option (AV × St) := (E.tab T2).bind (ap2 E s h id x y ti)
theorem ap1_mk (id T2 : Nat) (x y : AV) (ti : TI) : ap1 E s h id T2 x y ti = (E.tab T2).bind (ap2 E s h id x y ti) := rfl
theorem ap2_sl (id : Nat) (x y : AV) (e e2 n m n2 m2 : Nat) : ap2 E s h id x y ⟨.slice e, n, m⟩ ⟨.slice e2, n2, m2⟩ = (E.tab e).bind (apEl E e s h id x y) := rfl
theorem ap2_str (id : Nat) (x y : AV) (e n m n2 m2 : Nat) : ap2 E s h id x y ⟨.slice e, n, m⟩ ⟨.str, n2, m2⟩ = (E.tab e).bind (apElS E e s h id x y) := rfl
theorem append_eq (id T T2 : Nat) (x y : AV) : append E ⟨s, h⟩ id T T2 x y = (E.tab T).bind (ap1 E s h id T2 x y) := by
  unfold append
  congr 1
def apO (s : Slots) (h : Heap) (i : Nat) (t : Ty) (bytes : Nat) (ys : List t.Den) (xs : List t.Den) : Option (AV × St) := if roomFor (List.length xs + ys.length) bytes = true then some (.os (.t i), ⟨Slots.mapR (killF i) s, (Heap.mapR (killF i) h).put i (.arr true false t (xs ++ ys))⟩) else none
theorem apO_eq (i : Nat) (t : Ty) (bytes : Nat) (ys xs : List t.Den) : apO s h i t bytes ys xs = if roomFor (List.length xs + ys.length) bytes = true then some (.os (.t i), ⟨Slots.mapR (killF i) s, (Heap.mapR (killF i) h).put i (.arr true false t (xs ++ ys))⟩) else none := rfl
def apOs (s : Slots) (h : Heap) (i : Nat) (t : Ty) (bytes : Nat) (ys : List t.Den) : Option Obj → Option (AV × St)
  | some (.arr _ false t' xs) => (asDen (.slice t) (.d (.slice t') xs)).bind (apO s h i t bytes ys)
  | _ => none
theorem apOs_arr (i : Nat) (t : Ty) (bytes : Nat) (ys : List t.Den) (m : Bool) (t' : Ty) (xs : List t'.Den) : apOs s h i t bytes ys (some (.arr m false t' xs)) = (asDen (.slice t) (.d (.slice t') xs)).bind (apO s h i t bytes ys) := rfl
theorem appendTo_os (id : Nat) (t : Ty) (bytes : Nat) (ys : List t.Den) (i : Nat) : appendTo ⟨s, h⟩ id t bytes ys (.os (.t i)) = apOs s h i t bytes ys (h.get i) := by
  simp only [appendTo, apOs]
  cases h.get i with
  | none => rfl
  | some o =>
    cases o with
    | arr m d t' xs => cases d <;> rfl
    | _ => rfl
theorem appendTo_nil (id : Nat) (t : Ty) (bytes : Nat) (ys : List t.Den) : appendTo ⟨s, h⟩ id t bytes ys .nilS = if roomFor ys.length bytes = true then some (.os (.t id), St.alloc ⟨s, h⟩ id (.arr true false t ys)) else none := rfl
theorem appendTo_emp (id : Nat) (t : Ty) (bytes : Nat) (ys : List t.Den) : appendTo ⟨s, h⟩ id t bytes ys .empS = if roomFor ys.length bytes = true then some (.os (.t id), St.alloc ⟨s, h⟩ id (.arr true false t ys)) else none := rfl
def mkSt0 (s : Slots) (v : AV) (h : Heap) : AV × St := (v, ⟨s, h⟩)
theorem mkSt0_eq (v : AV) : mkSt0 s v h = (v, ⟨s, h⟩) := rfl
def apS (s : Slots) (h : Heap) (i a n : Nat) (t : Ty) (bytes : Nat) (ys : List t.Den) (xs : List t.Den) : Option (AV × St) :=
  if a + n + ys.length ≤ List.length xs then (h.setAt t (List.take (a + n) xs ++ ys ++ List.drop (a + n + ys.length) xs) (.t i)).map (mkSt0 s (.sub (.t i) a (n + ys.length)))
        else if roomFor (n + ys.length) bytes = true then some (.os (.t i), ⟨Slots.mapR (killF i) s, (Heap.mapR (killF i) h).put i (.arr true false t ((List.drop a xs).take n ++ ys))⟩) else none
theorem apS_eq (i a n : Nat) (t : Ty) (bytes : Nat) (ys xs : List t.Den) : apS s h i a n t bytes ys xs = if a + n + ys.length ≤ List.length xs then (h.setAt t (List.take (a + n) xs ++ ys ++ List.drop (a + n + ys.length) xs) (.t i)).map (mkSt0 s (.sub (.t i) a (n + ys.length)))
        else if roomFor (n + ys.length) bytes = true then some (.os (.t i), ⟨Slots.mapR (killF i) s, (Heap.mapR (killF i) h).put i (.arr true false t ((List.drop a xs).take n ++ ys))⟩) else none := rfl
def apSub (s : Slots) (h : Heap) (i a n : Nat) (t : Ty) (bytes : Nat) (ys : List t.Den) : Option Obj → Option (AV × St)
  | some (.arr _ false t' xs) => (asDen (.slice t) (.d (.slice t') xs)).bind (apS s h i a n t bytes ys)
  | _ => none
theorem apSub_arr (i a n : Nat) (t : Ty) (bytes : Nat) (ys : List t.Den) (m : Bool) (t' : Ty) (xs : List t'.Den) : apSub s h i a n t bytes ys (some (.arr m false t' xs)) = (asDen (.slice t) (.d (.slice t') xs)).bind (apS s h i a n t bytes ys) := rfl
theorem appendTo_sub (id : Nat) (t : Ty) (bytes : Nat) (ys : List t.Den) (i a n : Nat) : appendTo ⟨s, h⟩ id t bytes ys (.sub (.t i) a n) = apSub s h i a n t bytes ys (h.get i) := by
  simp only [appendTo, apSub]
  cases h.get i with
  | none => rfl
  | some o =>
    cases o with
    | arr m d t' xs => cases d <;> rfl
    | _ => rfl
/-! deep appends -/
def apD2 (s : Slots) (h : Heap) (id j : Nat) (t : Ty) (bytes : Nat) (ys : List t.Den) : AV → Option (AV × St)
  | .nilS => if roomFor (List.length ys) bytes = true then some (.os (.t id), (St.gone ⟨s, h⟩ [j]).alloc id (.arr true true t ys)) else none
  | .empS => if roomFor (List.length ys) bytes = true then some (.os (.t id), (St.gone ⟨s, h⟩ [j]).alloc id (.arr true true t ys)) else none
  | .os (.t i) => match h.get i with
    | some (.arr _ true t' xs) => if i = j then none else (asDen (.slice t) (.d (.slice t') xs)).bind fun xs =>
        if roomFor (List.length xs + List.length ys) bytes = true then some (.os (.t i), ⟨((St.gone ⟨s, h⟩ [j]).kill i).tmps, ((St.gone ⟨s, h⟩ [j]).kill i).heap.put i (.arr true true t (xs ++ ys))⟩) else none
    | _ => none
  | _ => none
def apD3 (id j : Nat) (t : Ty) (bytes : Nat) (s : Slots) (h : Heap) (x : AV) (ys : List t.Den) : Option (AV × St) := apD2 s h id j t bytes ys x
theorem apD3_eq (id j : Nat) (t : Ty) (bytes : Nat) (x : AV) (ys : List t.Den) : apD3 id j t bytes s h x ys = apD2 s h id j t bytes ys x := rfl
def apD1 (s : Slots) (h : Heap) (id j : Nat) (t : Ty) (bytes : Nat) (x : AV) : Option Obj → Option (AV × St)
  | some (.arr _ true ty ys) => (asDen (.slice t) (.d (.slice ty) ys)).bind (apD3 id j t bytes s h x)
  | _ => none
theorem apD1_deep (id j : Nat) (t : Ty) (bytes : Nat) (x : AV) (m : Bool) (ty : Ty) (ys : List ty.Den) : apD1 s h id j t bytes x (some (.arr m true ty ys)) = (asDen (.slice t) (.d (.slice ty) ys)).bind (apD3 id j t bytes s h x) := rfl
theorem apD1_flat (id j : Nat) (t : Ty) (bytes : Nat) (x : AV) (m : Bool) (ty : Ty) (ys : List ty.Den) : apD1 s h id j t bytes x (some (.arr m false ty ys)) = none := rfl
theorem appendDeep_os (id : Nat) (t : Ty) (bytes : Nat) (x : AV) (j : Nat) : appendDeep ⟨s, h⟩ id t bytes x (.os (.t j)) = apD1 s h id j t bytes x (h.get j) := by
  simp only [appendDeep, apD1]
  cases h.get j with
  | none => rfl
  | some o =>
    cases o with
    | arr m d ty ys =>
      cases d with
      | false => rfl
      | true =>
        simp only
        congr 1
    | _ => rfl
theorem appendDeep_d (id : Nat) (t : Ty) (bytes : Nat) (x : AV) (t' : Ty) (y : t'.Den) : appendDeep ⟨s, h⟩ id t bytes x (.d t' y) = none := rfl
theorem appendDeep_sub (id : Nat) (t : Ty) (bytes : Nat) (x : AV) (p : Pl) (a n : Nat) : appendDeep ⟨s, h⟩ id t bytes x (.sub p a n) = none := rfl
theorem appendDeep_nil (id : Nat) (t : Ty) (bytes : Nat) (x : AV) : appendDeep ⟨s, h⟩ id t bytes x .nilS = none := rfl
theorem appendDeep_emp (id : Nat) (t : Ty) (bytes : Nat) (x : AV) : appendDeep ⟨s, h⟩ id t bytes x .empS = none := rfl
theorem apD2_nil (id j : Nat) (t : Ty) (bytes : Nat) (ys : List t.Den) : apD2 s h id j t bytes ys .nilS = if roomFor (List.length ys) bytes = true then some (.os (.t id), (St.gone ⟨s, h⟩ [j]).alloc id (.arr true true t ys)) else none := rfl
theorem apD2_emp (id j : Nat) (t : Ty) (bytes : Nat) (ys : List t.Den) : apD2 s h id j t bytes ys .empS = if roomFor (List.length ys) bytes = true then some (.os (.t id), (St.gone ⟨s, h⟩ [j]).alloc id (.arr true true t ys)) else none := rfl
def apD5 (s : Slots) (h : Heap) (i j : Nat) (t : Ty) (bytes : Nat) (ys xs : List t.Den) : Option (AV × St) := if roomFor (List.length xs + List.length ys) bytes = true then some (.os (.t i), ⟨((St.gone ⟨s, h⟩ [j]).kill i).tmps, ((St.gone ⟨s, h⟩ [j]).kill i).heap.put i (.arr true true t (xs ++ ys))⟩) else none
theorem apD5_eq (i j : Nat) (t : Ty) (bytes : Nat) (ys xs : List t.Den) : apD5 s h i j t bytes ys xs = if roomFor (List.length xs + List.length ys) bytes = true then some (.os (.t i), ⟨((St.gone ⟨s, h⟩ [j]).kill i).tmps, ((St.gone ⟨s, h⟩ [j]).kill i).heap.put i (.arr true true t (xs ++ ys))⟩) else none := rfl
def apD4 (s : Slots) (h : Heap) (i j : Nat) (t : Ty) (bytes : Nat) (ys : List t.Den) : Option Obj → Option (AV × St)
  | some (.arr _ true t' xs) => if i = j then none else (asDen (.slice t) (.d (.slice t') xs)).bind (apD5 s h i j t bytes ys)
  | _ => none
theorem apD4_deep (i j : Nat) (t : Ty) (bytes : Nat) (ys : List t.Den) (m : Bool) (t' : Ty) (xs : List t'.Den) : apD4 s h i j t bytes ys (some (.arr m true t' xs)) = if i = j then none else (asDen (.slice t) (.d (.slice t') xs)).bind (apD5 s h i j t bytes ys) := rfl
theorem apD4_flat (i j : Nat) (t : Ty) (bytes : Nat) (ys : List t.Den) (m : Bool) (t' : Ty) (xs : List t'.Den) : apD4 s h i j t bytes ys (some (.arr m false t' xs)) = none := rfl
theorem apD2_os (id j : Nat) (t : Ty) (bytes : Nat) (ys : List t.Den) (i : Nat) : apD2 s h id j t bytes ys (.os (.t i)) = apD4 s h i j t bytes ys (h.get i) := by
  simp only [apD2, apD4]
  cases h.get i with
  | none => rfl
  | some o =>
    cases o with
    | arr m d t' xs => cases d <;> rfl
    | _ => rfl
theorem apD2_d (id j : Nat) (t : Ty) (bytes : Nat) (ys : List t.Den) (t' : Ty) (x : t'.Den) : apD2 s h id j t bytes ys (.d t' x) = none := rfl
/-! lists -/
def lsOs (t : Ty) (h : Heap) (p : Pl) : Option (List t.Den) := (h.arrAt p).bind (asDen (.slice t))
theorem lsOs_eq (t : Ty) (p : Pl) : lsOs t h p = (h.arrAt p).bind (asDen (.slice t)) := rfl
theorem lsl_os (t : Ty) (p : Pl) : listOf h t (.os p) = if h.deepAt p = true ∧ t.refs = true then none else (h.arrAt p).bind (asDen (.slice t)) := rfl
theorem lsl_sub (t : Ty) (p : Pl) (a n : Nat) : listOf h t (.sub p a n) = if h.deepAt p = true ∧ t.refs = true then none else ((h.arrAt p).bind (cutO a n)).bind (asDen (.slice t)) := rfl
theorem lsl_nil (t : Ty) : listOf h t .nilS = some [] := rfl
theorem lsl_emp (t : Ty) : listOf h t .empS = some [] := rfl
theorem lsl_d (t : Ty) (x : List t.Den) : listOf h t (.d (.slice t) x) = some x := asList_self t x
/-! copies -/
def cpTo (s : Slots) (h : Heap) (x : AV) (t : Ty) (ys : List t.Den) : Option (AV × St) := copyTo ⟨s, h⟩ t ys x
theorem cpTo_eq (x : AV) (t : Ty) (ys : List t.Den) : cpTo s h x t ys = copyTo ⟨s, h⟩ t ys x := rfl
def cpTy (s : Slots) (h : Heap) (x y : AV) (t : Ty) : Option (AV × St) := if t.refs = true then none else (listOf h t y).bind (cpTo s h x t)
theorem cpTy_eq (x y : AV) (t : Ty) : cpTy s h x y t = if t.refs = true then none else (listOf h t y).bind (cpTo s h x t) := rfl
def cpStr (s : Slots) (h : Heap) (x y : AV) (t : Ty) : Option (AV × St) := match t, y with
      | .int .u8, .d .str b => copyTo ⟨s, h⟩ (.int .u8) (bytesL b) x
      | _, _ => none
theorem cpStr_eq (x : AV) (b : ByteArray) : cpStr s h x (.d .str b) (.int .u8) = copyTo ⟨s, h⟩ (.int .u8) (bytesL b) x := rfl
def cp2 (E : Env) (s : Slots) (h : Heap) (x y : AV) (ti ti2 : TI) : Option (AV × St) := match ti.desc, ti2.desc with
    | .slice e, .slice _ => (E.ty e).bind (cpTy s h x y)
    | .slice e, .str => (E.ty e).bind (cpStr s h x y)
    | _, _ => none
theorem cp2_sl (x y : AV) (e e2 n m n2 m2 : Nat) : cp2 E s h x y ⟨.slice e, n, m⟩ ⟨.slice e2, n2, m2⟩ = (E.ty e).bind (cpTy s h x y) := rfl
theorem cp2_str (x y : AV) (e n m n2 m2 : Nat) : cp2 E s h x y ⟨.slice e, n, m⟩ ⟨.str, n2, m2⟩ = (E.ty e).bind (cpStr s h x y) := rfl
def cp1 (E : Env) (s : Slots) (h : Heap) (T2 : Nat) (x y : AV) (ti : TI) : Option (AV × St) := (E.tab T2).bind (cp2 E s h x y ti)
theorem cp1_eq (T2 : Nat) (x y : AV) (ti : TI) : cp1 E s h T2 x y ti = (E.tab T2).bind (cp2 E s h x y ti) := rfl
theorem copy_eq (T T2 : Nat) (x y : AV) : copy E ⟨s, h⟩ T T2 x y = (E.tab T).bind (cp1 E s h T2 x y) := by
  unfold copy cp1 cp2
  congr 1
def mkSt (s : Slots) (v : AV) (h : Heap) : AV × St := (v, ⟨s, h⟩)
theorem mkSt_eq (v : AV) : mkSt s v h = (v, ⟨s, h⟩) := rfl
def cpOs (s : Slots) (h : Heap) (p : Pl) (t : Ty) (ys xs : List t.Den) : Option (AV × St) := (h.setAt t (copyIn xs ys 0 (List.length xs)) p).map (mkSt s (.d (.int .i64) ((min ys.length (List.length xs) : Nat) : Int)))
theorem cpOs_eq (p : Pl) (t : Ty) (ys xs : List t.Den) : cpOs s h p t ys xs = (h.setAt t (copyIn xs ys 0 (List.length xs)) p).map (mkSt s (.d (.int .i64) ((min ys.length (List.length xs) : Nat) : Int))) := rfl
theorem copyTo_os (t : Ty) (ys : List t.Den) (p : Pl) : copyTo ⟨s, h⟩ t ys (.os p) = if h.deepAt p = true ∧ t.refs = true then none else (listOf h t (.os p)).bind (cpOs s h p t ys) := rfl
def cpSub (s : Slots) (h : Heap) (p : Pl) (a n : Nat) (t : Ty) (ys xs : List t.Den) : Option (AV × St) := (h.setAt t (copyIn xs ys a n) p).map (mkSt s (.d (.int .i64) ((min ys.length n : Nat) : Int)))
theorem cpSub_eq (p : Pl) (a n : Nat) (t : Ty) (ys xs : List t.Den) : cpSub s h p a n t ys xs = (h.setAt t (copyIn xs ys a n) p).map (mkSt s (.d (.int .i64) ((min ys.length n : Nat) : Int))) := rfl
theorem copyTo_sub (t : Ty) (ys : List t.Den) (p : Pl) (a n : Nat) : copyTo ⟨s, h⟩ t ys (.sub p a n) = if h.deepAt p = true ∧ t.refs = true then none else (listOf h t (.os p)).bind (cpSub s h p a n t ys) := rfl
theorem copyTo_nil (t : Ty) (ys : List t.Den) : copyTo ⟨s, h⟩ t ys .nilS = some (.d (.int .i64) (0 : Int), ⟨s, h⟩) := rfl
theorem copyTo_emp (t : Ty) (ys : List t.Den) : copyTo ⟨s, h⟩ t ys .empS = some (.d (.int .i64) (0 : Int), ⟨s, h⟩) := rfl
def clOs (s : Slots) (h : Heap) (p : Pl) (t : Ty) (xs : List t.Den) : Option (AV × St) := (h.setAt t (copyIn xs (List.replicate (List.length xs) t.zero) 0 (List.length xs)) p).map (mkSt s (.tuple []))
theorem clOs_eq (p : Pl) (t : Ty) (xs : List t.Den) : clOs s h p t xs = (h.setAt t (copyIn xs (List.replicate (List.length xs) t.zero) 0 (List.length xs)) p).map (mkSt s (.tuple [])) := rfl
def clSub (s : Slots) (h : Heap) (p : Pl) (a n : Nat) (t : Ty) (xs : List t.Den) : Option (AV × St) := (h.setAt t (copyIn xs (List.replicate n t.zero) a n) p).map (mkSt s (.tuple []))
theorem clSub_eq (p : Pl) (a n : Nat) (t : Ty) (xs : List t.Den) : clSub s h p a n t xs = (h.setAt t (copyIn xs (List.replicate n t.zero) a n) p).map (mkSt s (.tuple [])) := rfl
def clTy (s : Slots) (h : Heap) (x : AV) (t : Ty) : Option (AV × St) := match x with
      | .nilS => some (.tuple [], ⟨s, h⟩)
      | .empS => some (.tuple [], ⟨s, h⟩)
      | .os p => if h.deepAt p = true ∧ t.refs = true then none else (listOf h t (.os p)).bind (clOs s h p t)
      | .sub p a n => if h.deepAt p = true ∧ t.refs = true then none else (listOf h t (.os p)).bind (clSub s h p a n t)
      | _ => none
theorem clTy_nil (t : Ty) : clTy s h .nilS t = some (.tuple [], ⟨s, h⟩) := rfl
theorem clTy_emp (t : Ty) : clTy s h .empS t = some (.tuple [], ⟨s, h⟩) := rfl
theorem clTy_os (p : Pl) (t : Ty) : clTy s h (.os p) t = if h.deepAt p = true ∧ t.refs = true then none else (listOf h t (.os p)).bind (clOs s h p t) := rfl
theorem clTy_sub (p : Pl) (a n : Nat) (t : Ty) : clTy s h (.sub p a n) t = if h.deepAt p = true ∧ t.refs = true then none else (listOf h t (.os p)).bind (clSub s h p a n t) := rfl
def clTI (E : Env) (s : Slots) (h : Heap) (x : AV) (ti : TI) : Option (AV × St) := match ti.desc with
    | .slice e => (E.ty e).bind (clTy s h x)
    | _ => none
theorem clTI_slice (x : AV) (e n m : Nat) : clTI E s h x ⟨.slice e, n, m⟩ = (E.ty e).bind (clTy s h x) := rfl
theorem clear_eq (T : Nat) (x : AV) : clear E ⟨s, h⟩ T x = (E.tab T).bind (clTI E s h x) := rfl
/-! composites -/
def mkAgg (vs : List AV) : AV := .agg vs
theorem mkAgg_eq (vs : List AV) : mkAgg vs = .agg vs := rfl
def bdFill (acc : List AV) (o : Nat) (v : AV) (tf : TI) : Option (List AV) := if v.isUndef = false ∧ v.cells.length = tf.size then fillAt acc o v.cells else none
theorem bdFill_mk (acc : List AV) (o : Nat) (v : AV) (td : TD) (n m : Nat) : bdFill acc o v ⟨td, n, m⟩ = if v.isUndef = false ∧ v.cells.length = n then fillAt acc o v.cells else none := rfl
def bdF2 (E : Env) (acc : List AV) (v : AV) (f : Nat × Nat) : Option (List AV) := (E.tab f.2).bind (bdFill acc f.1 v)
theorem bdF2_mk (acc : List AV) (v : AV) (o T : Nat) : bdF2 E acc v (o, T) = (E.tab T).bind (bdFill acc o v) := rfl
def bdFold (E : Env) (fs : List (Nat × Nat)) : List (Nat × AV) → List AV → Option (List AV)
  | [], acc => some acc
  | (j, v) :: ps, acc => ((fs[j]?).bind (bdF2 E acc v)).bind (bdFold E fs ps)
theorem bdFold_nil (fs : List (Nat × Nat)) (acc : List AV) : bdFold E fs [] acc = some acc := rfl
theorem bdFold_cons (fs : List (Nat × Nat)) (j : Nat) (v : AV) (ps : List (Nat × AV)) (acc : List AV) : bdFold E fs ((j, v) :: ps) acc = ((fs[j]?).bind (bdF2 E acc v)).bind (bdFold E fs ps) := rfl
def bdArr (tes : TI) : List (Nat × AV) → List AV → Option (List AV)
  | [], acc => some acc
  | (j, v) :: ps, acc => (bdFill acc (j * tes.size) v tes).bind (bdArr tes ps)
theorem bdArr_nil (te : TI) (acc : List AV) : bdArr te [] acc = some acc := rfl
theorem bdArr_cons (td : TD) (n m : Nat) (j : Nat) (v : AV) (ps : List (Nat × AV)) (acc : List AV) : bdArr ⟨td, n, m⟩ ((j, v) :: ps) acc = (bdFill acc (j * n) v ⟨td, n, m⟩).bind (bdArr ⟨td, n, m⟩ ps) := rfl
def bdArr2 (E : Env) (T : Nat) (ps : List (Nat × AV)) (te : TI) : Option AV := ((zeros E.tab 8 T).bind (bdArr te ps)).map mkAgg
theorem bdArr2_eq (T : Nat) (ps : List (Nat × AV)) (te : TI) : bdArr2 E T ps te = ((zeros E.tab 8 T).bind (bdArr te ps)).map mkAgg := rfl
def bdTI (E : Env) (T : Nat) (ps : List (Nat × AV)) (ti : TI) : Option AV := match ti.desc with
    | .struct fs => ((zeros E.tab 8 T).bind (bdFold E fs ps)).map mkAgg
    | .arr _ e => (E.tab e).bind (bdArr2 E T ps)
    | _ => none
theorem bdTI_struct (T : Nat) (ps : List (Nat × AV)) (fs : List (Nat × Nat)) (n m : Nat) : bdTI E T ps ⟨.struct fs, n, m⟩ = ((zeros E.tab 8 T).bind (bdFold E fs ps)).map mkAgg := rfl
theorem bdTI_arr (T : Nat) (ps : List (Nat × AV)) (l e : Nat) (n m : Nat) : bdTI E T ps ⟨.arr l e, n, m⟩ = (E.tab e).bind (bdArr2 E T ps) := rfl
theorem build_eq (T : Nat) (ps : List (Nat × AV)) : build E T ps = (E.tab T).bind (bdTI E T ps) := by
  unfold build
  congr 1; funext ti
  unfold bdTI
  cases ti.desc with
  | struct fs =>
    simp only
    cases zeros E.tab 8 T with
    | none => rfl
    | some z =>
      simp only [Option.bind_some]
      have : ∀ (ps : List (Nat × AV)) (acc : List AV), ps.foldlM (fun acc p => (fs[p.1]?).bind fun f => (E.tab f.2).bind fun tf => if p.2.isUndef = false ∧ p.2.cells.length = tf.size then fillAt acc f.1 p.2.cells else none) acc = bdFold E fs ps acc := by
        intro ps
        induction ps with
        | nil => intro acc; rfl
        | cons p ps ih =>
          intro acc
          obtain ⟨j, v⟩ := p
          rw [List.foldlM_cons, bdFold_cons]
          show Option.bind _ _ = _
          have : (fun acc => ps.foldlM (fun acc p => (fs[p.1]?).bind fun f => (E.tab f.2).bind fun tf => if p.2.isUndef = false ∧ p.2.cells.length = tf.size then fillAt acc f.1 p.2.cells else none) acc) = bdFold E fs ps := funext ih
          rw [← this]; rfl
      rw [this]; rfl
  | arr l e =>
    simp only
    congr 1; funext te
    unfold bdArr2
    cases zeros E.tab 8 T with
    | none => rfl
    | some z =>
      simp only [Option.bind_some]
      have : ∀ (ps : List (Nat × AV)) (acc : List AV), ps.foldlM (fun acc p => if p.2.isUndef = false ∧ p.2.cells.length = te.size then fillAt acc (p.1 * te.size) p.2.cells else none) acc = bdArr te ps acc := by
        intro ps
        induction ps with
        | nil => intro acc; rfl
        | cons p ps ih =>
          intro acc
          obtain ⟨j, v⟩ := p
          rw [List.foldlM_cons]
          show Option.bind _ _ = Option.bind _ _
          have : (fun acc => ps.foldlM (fun acc p => if p.2.isUndef = false ∧ p.2.cells.length = te.size then fillAt acc (p.1 * te.size) p.2.cells else none) acc) = bdArr te ps := funext ih
          rw [← this]; rfl
      rw [this]; rfl
  | _ => rfl
/-! zeros -/
def zFold (tab : Nat → Option TI) (n : Nat) : List (Nat × Nat) → List AV → Option (List AV)
  | [], acc => some acc
  | (_, T) :: fs, acc => ((zeros tab n T).map (acc ++ ·)).bind (zFold tab n fs)
theorem zFold_nil (tab : Nat → Option TI) (n : Nat) (acc : List AV) : zFold tab n [] acc = some acc := rfl
def appL (acc z : List AV) : List AV := acc ++ z
theorem appL_eq (acc z : List AV) : appL acc z = acc ++ z := rfl
theorem zFold_cons (tab : Nat → Option TI) (n o T : Nat) (fs : List (Nat × Nat)) (acc : List AV) : zFold tab n ((o, T) :: fs) acc = ((zeros tab n T).map (appL acc)).bind (zFold tab n fs) := rfl
def repZ (m : Nat) (z : List AV) : List AV := (List.replicate m z).flatten
theorem repZ_zero (z : List AV) : repZ 0 z = [] := rfl
theorem repZ_succ (m : Nat) (z : List AV) : repZ (m + 1) z = z ++ repZ m z := by unfold repZ; rw [List.replicate_succ, List.flatten_cons]
def zTI (tab : Nat → Option TI) (n : Nat) (ti : TI) : Option (List AV) := match ti.desc with
    | .bool => some [.d .bool false]
    | .int k => some [.d (.int k) (0 : Int)]
    | .str => some [.d .str ByteArray.empty]
    | .err => some [.d .err false]
    | .slice _ => some [.nilS]
    | .ptr _ => some [.nilP]
    | .func => some [.nilF]
    | .map _ _ => some [.nilM]
    | .struct fs => zFold tab n fs []
    | .arr m e => (zeros tab n e).map (repZ m)
    | .other => none
theorem zeros_eq (tab : Nat → Option TI) (n T : Nat) : zeros tab (n + 1) T = (tab T).bind (zTI tab n) := by
  unfold zeros
  congr 1; funext ti
  unfold zTI
  cases ti.desc with
  | struct fs =>
    simp only
    have : ∀ (fs : List (Nat × Nat)) (acc : List AV), fs.foldlM (fun acc f => (zeros tab n f.2).map (acc ++ ·)) acc = zFold tab n fs acc := by
      intro fs
      induction fs with
      | nil => intro acc; rfl
      | cons f fs ih =>
        intro acc
        rw [List.foldlM_cons]
        show Option.bind _ _ = Option.bind _ _
        have : (fun acc => fs.foldlM (fun acc f => (zeros tab n f.2).map (acc ++ ·)) acc) = zFold tab n fs := funext ih
        rw [← this]
    exact this fs []
  | arr m e => rfl
  | _ => rfl
theorem zTI_bool (tab : Nat → Option TI) (n a b : Nat) : zTI tab n ⟨.bool, a, b⟩ = some [.d .bool false] := rfl
theorem zTI_int (tab : Nat → Option TI) (n a b : Nat) (k : IntKind) : zTI tab n ⟨.int k, a, b⟩ = some [.d (.int k) (0 : Int)] := rfl
theorem zTI_str (tab : Nat → Option TI) (n a b : Nat) : zTI tab n ⟨.str, a, b⟩ = some [.d .str ByteArray.empty] := rfl
theorem zTI_err (tab : Nat → Option TI) (n a b : Nat) : zTI tab n ⟨.err, a, b⟩ = some [.d .err false] := rfl
theorem zTI_slice (tab : Nat → Option TI) (n a b e : Nat) : zTI tab n ⟨.slice e, a, b⟩ = some [.nilS] := rfl
theorem zTI_ptr (tab : Nat → Option TI) (n a b e : Nat) : zTI tab n ⟨.ptr e, a, b⟩ = some [.nilP] := rfl
theorem zTI_func (tab : Nat → Option TI) (n a b : Nat) : zTI tab n ⟨.func, a, b⟩ = some [.nilF] := rfl
theorem zTI_map (tab : Nat → Option TI) (n a b k e : Nat) : zTI tab n ⟨.map k e, a, b⟩ = some [.nilM] := rfl
theorem zTI_struct (tab : Nat → Option TI) (n a b : Nat) (fs : List (Nat × Nat)) : zTI tab n ⟨.struct fs, a, b⟩ = zFold tab n fs [] := rfl
theorem zTI_arr (tab : Nat → Option TI) (n a b m e : Nat) : zTI tab n ⟨.arr m e, a, b⟩ = (zeros tab n e).map (repZ m) := rfl
theorem fillAt_eq (cells : List AV) (off : Nat) (vs : List AV) : fillAt cells off vs = if off + vs.length ≤ cells.length then some (cells.take off ++ vs ++ cells.drop (off + vs.length)) else none := rfl
/-! slices that are built -/
def okPart (n : Nat) : List (Nat × AV) → Bool
  | [] => true
  | (_, v) :: ps => (v.cells.length == n && !v.isUndef) && okPart n ps
theorem okPart_nil (n : Nat) : okPart n [] = true := rfl
theorem okPart_cons (n j : Nat) (v : AV) (ps : List (Nat × AV)) : okPart n ((j, v) :: ps) = ((v.cells.length == n && !v.isUndef) && okPart n ps) := rfl
def partCells : List (Nat × AV) → List AV
  | [] => []
  | (_, v) :: ps => v.cells ++ partCells ps
theorem partCells_nil : partCells [] = [] := rfl
theorem partCells_cons (j : Nat) (v : AV) (ps : List (Nat × AV)) : partCells ((j, v) :: ps) = v.cells ++ partCells ps := rfl
def bsTy (s : Slots) (h : Heap) (id len : Nat) (ps : List (Nat × AV)) (t : Ty) : Option (AV × St) := if len = ps.length ∧ inOrder 0 ps = true ∧ len * t.size ≤ 16777216 ∧ t.size ≠ 0 ∧ okPart t.size ps = true then newArr ⟨s, h⟩ id t (partCells ps) len else none
theorem bsTy_eq (id len : Nat) (ps : List (Nat × AV)) (t : Ty) : bsTy s h id len ps t = if len = ps.length ∧ inOrder 0 ps = true ∧ len * t.size ≤ 16777216 ∧ t.size ≠ 0 ∧ okPart t.size ps = true then newArr ⟨s, h⟩ id t (partCells ps) len else none := rfl
def bsTI (E : Env) (s : Slots) (h : Heap) (id len : Nat) (ps : List (Nat × AV)) (ti : TI) : Option (AV × St) := match ti.desc with
    | .slice e => (elTy E e).bind (bsTy s h id len ps)
    | _ => none
theorem bsTI_slice (id len : Nat) (ps : List (Nat × AV)) (e n m : Nat) : bsTI E s h id len ps ⟨.slice e, n, m⟩ = (elTy E e).bind (bsTy s h id len ps) := rfl
theorem elTy_eq (e : Nat) : elTy E e = elT E e (E.ty e) := rfl
theorem elT_some (e : Nat) (t : Ty) : elT E e (some t) = some t := rfl
theorem elT_none (e : Nat) : elT E e none = (E.tab e).bind (elP E) := rfl
theorem elP_ptr (x m : Nat) : elP E ⟨.ptr x, 1, m⟩ = (E.ty x).map .ptr := rfl
theorem buildSlice_eq (id T len : Nat) (ps : List (Nat × AV)) : buildSlice E ⟨s, h⟩ id T len ps = (E.tab T).bind (bsTI E s h id len ps) := by
  unfold buildSlice
  congr 1; funext ti
  unfold bsTI
  cases ti.desc with
  | slice e =>
    simp only
    congr 1; funext t
    unfold bsTy
    have h1 : ∀ ps : List (Nat × AV), (ps.map (·.2)).all (fun v => v.cells.length == t.size && !v.isUndef) = okPart t.size ps := by
      intro ps
      induction ps with
      | nil => rfl
      | cons p ps ih => obtain ⟨j, v⟩ := p; rw [List.map_cons, List.all_cons, okPart_cons, ih]
    have h2 : ∀ ps : List (Nat × AV), flatCells (ps.map (·.2)) = partCells ps := by
      intro ps
      induction ps with
      | nil => rfl
      | cons p ps ih => obtain ⟨j, v⟩ := p; rw [List.map_cons, partCells_cons, ← ih]; rfl
    rw [h1, h2]
  | _ => rfl
def naFr2 (id : Nat) (t : Ty) (s : Slots) (h : Heap) (xs : List t.Den) : Option (AV × St) := some (.os (.t id), St.alloc ⟨s, h⟩ id (.arr true false t xs))
theorem naFr2_eq (id : Nat) (t : Ty) (xs : List t.Den) : naFr2 id t s h xs = some (.os (.t id), St.alloc ⟨s, h⟩ id (.arr true false t xs)) := rfl
def naFr (id len : Nat) (t : Ty) (r : List AV × St) : Option (AV × St) := (elems t (groups t.size len r.1)).bind (naFr2 id t r.2.tmps r.2.heap)
theorem naFr_mk (id len : Nat) (t : Ty) (cs : List AV) : naFr id len t (cs, ⟨s, h⟩) = (elems t (groups t.size len cs)).bind (naFr2 id t s h) := rfl
def naD2 (id : Nat) (t : Ty) (st : St) (xs : List t.Den) : Option (AV × St) := some (.os (.t id), st.alloc id (.arr true true t xs))
theorem naD2_eq (id : Nat) (t : Ty) (xs : List t.Den) : naD2 id t ⟨s, h⟩ xs = some (.os (.t id), St.alloc ⟨s, h⟩ id (.arr true true t xs)) := rfl
def naD (s : Slots) (h : Heap) (id len : Nat) (t : Ty) (cells : List AV) : Option (List AV × List Nat) → Option (AV × St)
  | some r => if nodupN r.2 = true then (elems t (groups t.size len r.1)).bind (naD2 id t (St.gone ⟨s, h⟩ r.2)) else (freezes 4 ⟨s, h⟩ cells).bind (naFr id len t)
  | none => (freezes 4 ⟨s, h⟩ cells).bind (naFr id len t)
theorem naD_some (id len : Nat) (t : Ty) (cells cs : List AV) (gone : List Nat) : naD s h id len t cells (some (cs, gone)) = if nodupN gone = true then (elems t (groups t.size len cs)).bind (naD2 id t (St.gone ⟨s, h⟩ gone)) else (freezes 4 ⟨s, h⟩ cells).bind (naFr id len t) := rfl
theorem naD_none (id len : Nat) (t : Ty) (cells : List AV) : naD s h id len t cells none = (freezes 4 ⟨s, h⟩ cells).bind (naFr id len t) := rfl
theorem newArr_eq (id : Nat) (t : Ty) (cells : List AV) (len : Nat) : newArr ⟨s, h⟩ id t cells len = if t.refs = true then naD s h id len t cells (absorbs h cells) else (freezes 4 ⟨s, h⟩ cells).bind (naFr id len t) := by
  unfold newArr
  by_cases hr : t.refs = true
  · rw [if_pos hr, if_pos hr]
    simp only
    cases hA : absorbs h cells with
    | none => rfl
    | some r =>
      simp only [Option.bind_some, naD]
      by_cases hn : nodupN r.2 = true
      · rw [if_pos hn, if_pos hn]; rfl
      · rw [if_neg hn, if_neg hn]; rfl
  · rw [if_neg hr, if_neg hr]; rfl
def msTy (s : Slots) (h : Heap) (id bytes : Nat) (len cap : Int) (t : Ty) : Option (AV × St) := if 0 ≤ len ∧ len ≤ cap ∧ bytes * cap ≤ 140737488355328 ∧ cap ≤ 9223372036854775807 then some (.os (.t id), St.alloc ⟨s, h⟩ id (.arr true t.refs t (List.replicate len.toNat t.zero))) else none
theorem msTy_eq (id bytes : Nat) (len cap : Int) (t : Ty) : msTy s h id bytes len cap t = if 0 ≤ len ∧ len ≤ cap ∧ bytes * cap ≤ 140737488355328 ∧ cap ≤ 9223372036854775807 then some (.os (.t id), St.alloc ⟨s, h⟩ id (.arr true t.refs t (List.replicate len.toNat t.zero))) else none := rfl
def msEl (E : Env) (s : Slots) (h : Heap) (e id : Nat) (len cap : Int) (te : TI) : Option (AV × St) := (E.ty e).bind (msTy s h id te.bytes len cap)
theorem msEl_mk (e id : Nat) (len cap : Int) (td : TD) (n m : Nat) : msEl E s h e id len cap ⟨td, n, m⟩ = (E.ty e).bind (msTy s h id m len cap) := rfl
def msTI (E : Env) (s : Slots) (h : Heap) (id : Nat) (len cap : Int) (ti : TI) : Option (AV × St) := match ti.desc with
    | .slice e => (E.tab e).bind (msEl E s h e id len cap)
    | _ => none
theorem msTI_slice (id : Nat) (len cap : Int) (e n m : Nat) : msTI E s h id len cap ⟨.slice e, n, m⟩ = (E.tab e).bind (msEl E s h e id len cap) := rfl
theorem makeSlice_eq (id T : Nat) (len cap : Int) : makeSlice E ⟨s, h⟩ id T len cap = (E.tab T).bind (msTI E s h id len cap) := rfl
end
end Go.Q
