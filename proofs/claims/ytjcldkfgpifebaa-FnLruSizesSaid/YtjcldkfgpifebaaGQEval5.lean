/- An abstract interpreter of the translated code: equations for maps. -/
import Derived.Test.YtjcldkfgpifebaaGQEval4
namespace Go.Q
set_option linter.unusedVariables false
set_option linter.unusedSimpArgs false
set_option linter.unusedSectionVars false
open Go
section
variable {E : Env} {s : Slots} {h : Heap} {d : Option Nat}
theorem ex_lookup (T : Nat) (x k : Operand) (ok : Bool) : exOp E ⟨d, .lookup T x k ok, 0, "", #[], none⟩ ⟨s, h⟩ = (lookupT E h T (eval ⟨s, h⟩ x) (eval ⟨s, h⟩ k) ok).map (St.put ⟨s, h⟩ d) := rfl
def lkT (E : Env) (h : Heap) (m k : AV) (ok : Bool) (ti : TI) : Option AV := match ti.desc, m with
  | .map a b, .mp id => lookupO E a b k ok (h.get id)
  | _, _ => none
theorem lookupT_eq (T : Nat) (m k : AV) (ok : Bool) : lookupT E h T m k ok = (E.tab T).bind (lkT E h m k ok) := rfl
theorem lkT_mp (id a b n z : Nat) (k : AV) (ok : Bool) : lkT E h (.mp id) k ok ⟨.map a b, n, z⟩ = lookupO E a b k ok (h.get id) := rfl
def lk5 (te : TI) (ok : Bool) (z : List AV) : Option AV := (mkV te z).map (okV ok false)
theorem lk5_eq (te : TI) (ok : Bool) (z : List AV) : lk5 te ok z = (mkV te z).map (okV ok false) := rfl
def lk4 (E : Env) (b : Nat) (ok : Bool) (tv : Ty) (te : TI) : Option tv.Den → Option AV
  | some x => (mkV te (flat tv x)).map (okV ok true)
  | none => (zeros E.tab 8 b).bind (lk5 te ok)
theorem lk4_some (b : Nat) (ok : Bool) (tv : Ty) (te : TI) (x : tv.Den) : lk4 E b ok tv te (some x) = (mkV te (flat tv x)).map (okV ok true) := rfl
theorem lk4_none (b : Nat) (ok : Bool) (tv : Ty) (te : TI) : lk4 E b ok tv te none = (zeros E.tab 8 b).bind (lk5 te ok) := rfl
def lk3 (E : Env) (b : Nat) (ok : Bool) (tk tv : Ty) (kvs : List (tk.Den × tv.Den)) (te : TI) (key : tk.Den) : Option AV := lk4 E b ok tv te (findL key kvs)
theorem lk3_eq (b : Nat) (ok : Bool) (tk tv : Ty) (kvs : List (tk.Den × tv.Den)) (te : TI) (key : tk.Den) : lk3 E b ok tk tv kvs te key = lk4 E b ok tv te (findL key kvs) := rfl
def lk2 (E : Env) (b : Nat) (k : AV) (ok : Bool) (tk tv : Ty) (kvs : List (tk.Den × tv.Den)) (ki te : TI) : Option AV := if keyD ki.desc tk = true ∧ te.isAgg = tv.isAggT then (asDen tk k).bind (lk3 E b ok tk tv kvs te) else none
theorem lk2_mk (b : Nat) (k : AV) (ok : Bool) (tk tv : Ty) (kvs : List (tk.Den × tv.Den)) (td te : TD) (n m n2 m2 : Nat) : lk2 E b k ok tk tv kvs ⟨td, n, m⟩ ⟨te, n2, m2⟩ = if keyD td tk = true ∧ TI.isAgg ⟨te, n2, m2⟩ = tv.isAggT then (asDen tk k).bind (lk3 E b ok tk tv kvs ⟨te, n2, m2⟩) else none := rfl
def lk1 (E : Env) (b : Nat) (k : AV) (ok : Bool) (tk tv : Ty) (kvs : List (tk.Den × tv.Den)) (ki : TI) : Option AV := (E.tab b).bind (lk2 E b k ok tk tv kvs ki)
theorem lk1_mk (b : Nat) (k : AV) (ok : Bool) (tk tv : Ty) (kvs : List (tk.Den × tv.Den)) (td : TD) (n m : Nat) : lk1 E b k ok tk tv kvs ⟨td, n, m⟩ = (E.tab b).bind (lk2 E b k ok tk tv kvs ⟨td, n, m⟩) := rfl
theorem lookupO_mp (a b : Nat) (k : AV) (ok : Bool) (tk tv : Ty) (kvs : List (tk.Den × tv.Den)) : lookupO E a b k ok (some (.mp tk tv kvs)) = (E.tab a).bind (lk1 E b k ok tk tv kvs) := by
  simp only [lookupO, lk1, lk2]
  congr 1
theorem keyD_str : keyD .str .str = true := rfl
theorem keyD_bool : keyD .bool .bool = true := rfl
theorem keyD_int (k k' : IntKind) : keyD (.int k) (.int k') = decide (k = k') := rfl
theorem isAggT_agg (l : Ty) : Ty.isAggT (.agg l) = true := rfl
theorem isAggT_bool : Ty.isAggT .bool = false := rfl
theorem isAggT_int (k : IntKind) : Ty.isAggT (.int k) = false := rfl
theorem isAggT_str : Ty.isAggT .str = false := rfl
theorem isAggT_slice (t : Ty) : Ty.isAggT (.slice t) = false := rfl
theorem isAggV_agg (vs : List AV) : AV.isAggV (.agg vs) = true := rfl
theorem isAggV_d (t : Ty) (x : t.Den) : AV.isAggV (.d t x) = false := rfl
theorem okV_true (b : Bool) (v : AV) : okV true b v = .tuple [v, .d .bool b] := rfl
theorem okV_false (b : Bool) (v : AV) : okV false b v = v := rfl
/-! updates -/
def mu2 (s : Slots) (h : Heap) (id : Nat) (o : Obj) : St := ⟨s, h.put id o⟩
theorem mu2_eq (id : Nat) (o : Obj) : mu2 s h id o = ⟨s, h.put id o⟩ := rfl
def mu1 (E : Env) (s : Slots) (h : Heap) (m k v : AV) (ti : TI) : Option St := match ti.desc, m with
  | .map a _, .mp id => (updO E a k v (h.get id)).map (mu2 s h id)
  | _, _ => none
theorem mapUpdate_eq (T : Nat) (m k v : AV) : mapUpdate E ⟨s, h⟩ T m k v = (E.tab T).bind (mu1 E s h m k v) := rfl
theorem mu1_mp (id a b n z : Nat) (k v : AV) : mu1 E s h (.mp id) k v ⟨.map a b, n, z⟩ = (updO E a k v (h.get id)).map (mu2 s h id) := rfl
def up3 (tk tv : Ty) (kvs : List (tk.Den × tv.Den)) (key : tk.Den) (x : tv.Den × List AV) : Option Obj := if x.2.isEmpty = true then some (.mp tk tv (updL key x.1 kvs)) else none

def up2 (tk tv : Ty) (kvs : List (tk.Den × tv.Den)) (v : AV) (key : tk.Den) : Option Obj := (unflat tv v.cells).bind (up3 tk tv kvs key)
theorem up2_eq (tk tv : Ty) (kvs : List (tk.Den × tv.Den)) (v : AV) (key : tk.Den) : up2 tk tv kvs v key = (unflat tv v.cells).bind (up3 tk tv kvs key) := rfl
def up1 (tk tv : Ty) (kvs : List (tk.Den × tv.Den)) (k v : AV) (ki : TI) : Option Obj := if keyD ki.desc tk = true ∧ v.isAggV = tv.isAggT ∧ v.isUndef = false then (asDen tk k).bind (up2 tk tv kvs v) else none
theorem up1_mk (tk tv : Ty) (kvs : List (tk.Den × tv.Den)) (k v : AV) (td : TD) (n m : Nat) : up1 tk tv kvs k v ⟨td, n, m⟩ = if keyD td tk = true ∧ v.isAggV = tv.isAggT ∧ v.isUndef = false then (asDen tk k).bind (up2 tk tv kvs v) else none := rfl
theorem updO_mp (a : Nat) (k v : AV) (tk tv : Ty) (kvs : List (tk.Den × tv.Den)) : updO E a k v (some (.mp tk tv kvs)) = (E.tab a).bind (up1 tk tv kvs k v) := rfl
theorem up3_bool (tk : Ty) (kvs : List (tk.Den × Bool)) (key : tk.Den) (α : Type) (x : Bool) (r : List AV) : up3 tk .bool kvs key (x, r) = if r.isEmpty = true then some (.mp tk .bool (updL (tv := .bool) key x kvs)) else none := rfl
theorem ex_mu (T : Nat) (m k x : Operand) : exOp E ⟨d, .mapUpdate T m k x, 0, "", #[], none⟩ ⟨s, h⟩ = (mapUpdate E ⟨s, h⟩ T (eval ⟨s, h⟩ m) (eval ⟨s, h⟩ k) (eval ⟨s, h⟩ x)).map (putU d) := by
  show Option.map _ (Option.map _ (mapUpdate E ⟨s, h⟩ T _ _ _)) = _
  rw [Option.map_map]; rfl
theorem ex_ins (T : Nat) (m k x : Operand) : exOp E ⟨d, .insert T m k x, 0, "", #[], none⟩ ⟨s, h⟩ = (mapUpdate E ⟨s, h⟩ T (eval ⟨s, h⟩ m) (eval ⟨s, h⟩ k) (eval ⟨s, h⟩ x)).map (putU d) := by
  show Option.map _ (Option.map _ (mapUpdate E ⟨s, h⟩ T _ _ _)) = _
  rw [Option.map_map]; rfl
/-! new maps -/
def isIntV : AV → Bool
  | .d (.int _) _ => true
  | _ => false
theorem isIntV_int (k : IntKind) (n : Int) : isIntV (.d (.int k) n) = true := rfl
theorem hint_none : hintOk ⟨s, h⟩ none = true := rfl
theorem hint_some (x : Operand) : hintOk ⟨s, h⟩ (some x) = isIntV (eval ⟨s, h⟩ x) := rfl
def mm3 (s : Slots) (h : Heap) (id : Nat) (tk tv : Ty) : AV × St := (.mp id, St.alloc ⟨s, h⟩ id (.mp tk tv []))
theorem mm3_eq (id : Nat) (tk tv : Ty) : mm3 s h id tk tv = (.mp id, St.alloc ⟨s, h⟩ id (.mp tk tv [])) := rfl
def mm2 (E : Env) (s : Slots) (h : Heap) (id e : Nat) (tk : Ty) : Option (AV × St) := (E.ty e).map (mm3 s h id tk)
theorem mm2_eq (id e : Nat) (tk : Ty) : mm2 E s h id e tk = (E.ty e).map (mm3 s h id tk) := rfl
def mm1 (E : Env) (s : Slots) (h : Heap) (id : Nat) (ti : TI) : Option (AV × St) := match ti.desc with
  | .map k e => (E.ty k).bind (mm2 E s h id e)
  | _ => none
theorem mm1_mk (id k e n m : Nat) : mm1 E s h id ⟨.map k e, n, m⟩ = (E.ty k).bind (mm2 E s h id e) := rfl
theorem makeMap_eq (id T : Nat) (r : Option Operand) : makeMap E ⟨s, h⟩ id T r = if hintOk ⟨s, h⟩ r = true then (E.tab T).bind (mm1 E s h id) else none := by
  unfold makeMap
  split
  · congr 1
  · rfl
theorem ex_mm (T : Nat) (r : Option Operand) : exOp E ⟨d, .makeMap T r, 0, "", #[], none⟩ ⟨s, h⟩ = (makeMap E ⟨s, h⟩ (newId d) T r).map (put2 d) := rfl
/-! elements behind those of an array whose elements hold slices -/
def apR2 (id : Nat) (t : Ty) (bytes : Nat) (x y : AV) (st : St) : Option (AV × St) := (listOf st.heap t y).bind fun ys => appendTo st id t bytes ys x
theorem apR2_mk (id : Nat) (t : Ty) (bytes : Nat) (x y : AV) : apR2 id t bytes x y ⟨s, h⟩ = (listOf h t y).bind (apTo id t bytes s h x) := rfl
def apR1 (id : Nat) (t : Ty) (bytes : Nat) (x : AV) (j : Nat) (y : AV) (st : St) : Option (AV × St) := apR2 id t bytes x y (frIn st.tmps st.heap j (st.heap.get j))
theorem apR1_mk (id : Nat) (t : Ty) (bytes : Nat) (x : AV) (j : Nat) (y : AV) : apR1 id t bytes x j y ⟨s, h⟩ = apR2 id t bytes x y (frIn s h j (h.get j)) := rfl
theorem frIn_of (i : Nat) (st : St) : St.freezeIn st i = frIn st.tmps st.heap i (st.heap.get i) := freezeIn_eq i
theorem apRest_oo (id : Nat) (t : Ty) (bytes i j : Nat) : apRest s h id t bytes (.os (.t i)) (.os (.t j)) = apR1 id t bytes (.os (.t i)) j (.os (.t j)) (frIn s h i (h.get i)) := by
  simp only [apRest, freezeInOf, frozenInOf, AV.mapR, frozenInF, Pl.isIn, Pl.id, Bool.false_eq_true, false_and, if_false, frIn_of, apR1, apR2]
theorem apRest_so (id : Nat) (t : Ty) (bytes i a n j : Nat) : apRest s h id t bytes (.sub (.t i) a n) (.os (.t j)) = apR1 id t bytes (.sub (.t i) a n) j (.os (.t j)) (frIn s h i (h.get i)) := by
  simp only [apRest, freezeInOf, frozenInOf, AV.mapR, frozenInF, Pl.isIn, Pl.id, Bool.false_eq_true, false_and, if_false, frIn_of, apR1, apR2]
theorem apRest_no (id : Nat) (t : Ty) (bytes j : Nat) : apRest s h id t bytes .nilS (.os (.t j)) = apR1 id t bytes .nilS j (.os (.t j)) ⟨s, h⟩ := by
  simp only [apRest, freezeInOf, frozenInOf, AV.mapR, frozenInF, Pl.isIn, Pl.id, Bool.false_eq_true, false_and, if_false, frIn_of, apR1, apR2]
theorem apRest_eo (id : Nat) (t : Ty) (bytes j : Nat) : apRest s h id t bytes .empS (.os (.t j)) = apR1 id t bytes .empS j (.os (.t j)) ⟨s, h⟩ := by
  simp only [apRest, freezeInOf, frozenInOf, AV.mapR, frozenInF, Pl.isIn, Pl.id, Bool.false_eq_true, false_and, if_false, frIn_of, apR1, apR2]
theorem apRest_od (id : Nat) (t : Ty) (bytes i : Nat) (t' : Ty) (x : t'.Den) : apRest s h id t bytes (.os (.t i)) (.d t' x) = apR2 id t bytes (.os (.t i)) (.d t' x) (frIn s h i (h.get i)) := by
  simp only [apRest, freezeInOf, frozenInOf, AV.mapR, frozenInF, Pl.isIn, Pl.id, Bool.false_eq_true, false_and, if_false, frIn_of, apR1, apR2]
theorem apRest_sd (id : Nat) (t : Ty) (bytes i a n : Nat) (t' : Ty) (x : t'.Den) : apRest s h id t bytes (.sub (.t i) a n) (.d t' x) = apR2 id t bytes (.sub (.t i) a n) (.d t' x) (frIn s h i (h.get i)) := by
  simp only [apRest, freezeInOf, frozenInOf, AV.mapR, frozenInF, Pl.isIn, Pl.id, Bool.false_eq_true, false_and, if_false, frIn_of, apR1, apR2]
/-! maps whose values are numbers, or true and false -/
theorem up3_any (tk tv : Ty) (kvs : List (tk.Den × tv.Den)) (key : tk.Den) (x : tv.Den × List AV) : up3 tk tv kvs key x = if x.2.isEmpty = true then some (.mp tk tv (updL key x.1 kvs)) else none := rfl
theorem lk4_nb (b : Nat) (ok : Bool) (te : TI) : lk4 E b ok .bool te (@none Bool) = (zeros E.tab 8 b).bind (lk5 te ok) := rfl
theorem lk4_sb (b : Nat) (ok : Bool) (te : TI) (x : Bool) : lk4 E b ok .bool te (@some Bool x) = (mkV te [.d .bool x]).map (okV ok true) := rfl
theorem lk4_ni (b : Nat) (ok : Bool) (k : IntKind) (te : TI) : lk4 E b ok (.int k) te (@none Int) = (zeros E.tab 8 b).bind (lk5 te ok) := rfl
theorem lk4_si (b : Nat) (ok : Bool) (k : IntKind) (te : TI) (x : Int) : lk4 E b ok (.int k) te (@some Int x) = (mkV te [.d (.int k) x]).map (okV ok true) := rfl

/-! variables of strings.Builder -/
theorem bldOf_bool  (tab : Nat → Option TI) (T sz by_ : Nat) : bldOf tab T ⟨.bool, sz, by_⟩ = none := rfl
theorem bld2_bool  (tab : Nat → Option TI) (T b0 sz by_ : Nat) : bld2 tab T b0 ⟨.bool, sz, by_⟩ = none := rfl
theorem bld3_bool  (tab : Nat → Option TI) (sz by_ : Nat) : bld3 tab ⟨.bool, sz, by_⟩ = none := rfl
theorem bld4_bool  (e0 sz by_ : Nat) : bld4 e0 ⟨.bool, sz, by_⟩ = none := rfl
theorem bldOf_str  (tab : Nat → Option TI) (T sz by_ : Nat) : bldOf tab T ⟨.str, sz, by_⟩ = none := rfl
theorem bld2_str  (tab : Nat → Option TI) (T b0 sz by_ : Nat) : bld2 tab T b0 ⟨.str, sz, by_⟩ = none := rfl
theorem bld3_str  (tab : Nat → Option TI) (sz by_ : Nat) : bld3 tab ⟨.str, sz, by_⟩ = none := rfl
theorem bld4_str  (e0 sz by_ : Nat) : bld4 e0 ⟨.str, sz, by_⟩ = none := rfl
theorem bldOf_err  (tab : Nat → Option TI) (T sz by_ : Nat) : bldOf tab T ⟨.err, sz, by_⟩ = none := rfl
theorem bld2_err  (tab : Nat → Option TI) (T b0 sz by_ : Nat) : bld2 tab T b0 ⟨.err, sz, by_⟩ = none := rfl
theorem bld3_err  (tab : Nat → Option TI) (sz by_ : Nat) : bld3 tab ⟨.err, sz, by_⟩ = none := rfl
theorem bld4_err  (e0 sz by_ : Nat) : bld4 e0 ⟨.err, sz, by_⟩ = none := rfl
theorem bldOf_func  (tab : Nat → Option TI) (T sz by_ : Nat) : bldOf tab T ⟨.func, sz, by_⟩ = none := rfl
theorem bld2_func  (tab : Nat → Option TI) (T b0 sz by_ : Nat) : bld2 tab T b0 ⟨.func, sz, by_⟩ = none := rfl
theorem bld3_func  (tab : Nat → Option TI) (sz by_ : Nat) : bld3 tab ⟨.func, sz, by_⟩ = none := rfl
theorem bld4_func  (e0 sz by_ : Nat) : bld4 e0 ⟨.func, sz, by_⟩ = none := rfl
theorem bldOf_other  (tab : Nat → Option TI) (T sz by_ : Nat) : bldOf tab T ⟨.other, sz, by_⟩ = none := rfl
theorem bld2_other  (tab : Nat → Option TI) (T b0 sz by_ : Nat) : bld2 tab T b0 ⟨.other, sz, by_⟩ = none := rfl
theorem bld3_other  (tab : Nat → Option TI) (sz by_ : Nat) : bld3 tab ⟨.other, sz, by_⟩ = none := rfl
theorem bld4_other  (e0 sz by_ : Nat) : bld4 e0 ⟨.other, sz, by_⟩ = none := rfl
theorem bldOf_int (k : IntKind) (tab : Nat → Option TI) (T sz by_ : Nat) : bldOf tab T ⟨(.int k), sz, by_⟩ = none := rfl
theorem bld2_int (k : IntKind) (tab : Nat → Option TI) (T b0 sz by_ : Nat) : bld2 tab T b0 ⟨(.int k), sz, by_⟩ = none := rfl
theorem bld3_int (k : IntKind) (tab : Nat → Option TI) (sz by_ : Nat) : bld3 tab ⟨(.int k), sz, by_⟩ = none := rfl
theorem bld4_int (k : IntKind) (e0 sz by_ : Nat) : bld4 e0 ⟨(.int k), sz, by_⟩ = if k = .u8 then some e0 else none := rfl
theorem bldOf_slice (e : Nat) (tab : Nat → Option TI) (T sz by_ : Nat) : bldOf tab T ⟨(.slice e), sz, by_⟩ = none := rfl
theorem bld2_slice (e : Nat) (tab : Nat → Option TI) (T b0 sz by_ : Nat) : bld2 tab T b0 ⟨(.slice e), sz, by_⟩ = none := rfl
theorem bld3_slice (e : Nat) (tab : Nat → Option TI) (sz by_ : Nat) : bld3 tab ⟨(.slice e), sz, by_⟩ = (tab e).bind (bld4 e) := rfl
theorem bld4_slice (e : Nat) (e0 sz by_ : Nat) : bld4 e0 ⟨(.slice e), sz, by_⟩ = none := rfl
theorem bldOf_struct (fs : List (Nat × Nat)) (tab : Nat → Option TI) (T sz by_ : Nat) : bldOf tab T ⟨(.struct fs), sz, by_⟩ = bld1 tab T fs := rfl
theorem bld2_struct (fs : List (Nat × Nat)) (tab : Nat → Option TI) (T b0 sz by_ : Nat) : bld2 tab T b0 ⟨(.struct fs), sz, by_⟩ = none := rfl
theorem bld3_struct (fs : List (Nat × Nat)) (tab : Nat → Option TI) (sz by_ : Nat) : bld3 tab ⟨(.struct fs), sz, by_⟩ = none := rfl
theorem bld4_struct (fs : List (Nat × Nat)) (e0 sz by_ : Nat) : bld4 e0 ⟨(.struct fs), sz, by_⟩ = none := rfl
theorem bldOf_arr (n e : Nat) (tab : Nat → Option TI) (T sz by_ : Nat) : bldOf tab T ⟨(.arr n e), sz, by_⟩ = none := rfl
theorem bld2_arr (n e : Nat) (tab : Nat → Option TI) (T b0 sz by_ : Nat) : bld2 tab T b0 ⟨(.arr n e), sz, by_⟩ = none := rfl
theorem bld3_arr (n e : Nat) (tab : Nat → Option TI) (sz by_ : Nat) : bld3 tab ⟨(.arr n e), sz, by_⟩ = none := rfl
theorem bld4_arr (n e : Nat) (e0 sz by_ : Nat) : bld4 e0 ⟨(.arr n e), sz, by_⟩ = none := rfl
theorem bldOf_ptr (e : Nat) (tab : Nat → Option TI) (T sz by_ : Nat) : bldOf tab T ⟨(.ptr e), sz, by_⟩ = none := rfl
theorem bld2_ptr (e : Nat) (tab : Nat → Option TI) (T b0 sz by_ : Nat) : bld2 tab T b0 ⟨(.ptr e), sz, by_⟩ = if e = T then (tab b0).bind (bld3 tab) else none := rfl
theorem bld3_ptr (e : Nat) (tab : Nat → Option TI) (sz by_ : Nat) : bld3 tab ⟨(.ptr e), sz, by_⟩ = none := rfl
theorem bld4_ptr (e : Nat) (e0 sz by_ : Nat) : bld4 e0 ⟨(.ptr e), sz, by_⟩ = none := rfl
theorem bldOf_map (k e : Nat) (tab : Nat → Option TI) (T sz by_ : Nat) : bldOf tab T ⟨(.map k e), sz, by_⟩ = none := rfl
theorem bld2_map (k e : Nat) (tab : Nat → Option TI) (T b0 sz by_ : Nat) : bld2 tab T b0 ⟨(.map k e), sz, by_⟩ = none := rfl
theorem bld3_map (k e : Nat) (tab : Nat → Option TI) (sz by_ : Nat) : bld3 tab ⟨(.map k e), sz, by_⟩ = none := rfl
theorem bld4_map (k e : Nat) (e0 sz by_ : Nat) : bld4 e0 ⟨(.map k e), sz, by_⟩ = none := rfl
theorem bld1_nil (tab : Nat → Option TI) (T : Nat) : bld1 tab T [] = none := rfl
theorem bld1_one (tab : Nat → Option TI) (T : Nat) (f : Nat × Nat) : bld1 tab T [f] = none := rfl
theorem bld1_two (tab : Nat → Option TI) (T a b i j : Nat) (gs : List (Nat × Nat)) : bld1 tab T ((a, i) :: (b, j) :: gs) = if gs.isEmpty = true ∧ a = 0 ∧ b = 1 then (tab i).bind (bld2 tab T j) else none := rfl
theorem varOf_none (T : Nat) (z : List AV) : varOf T z none = .box z := rfl
theorem varOf_some (T e : Nat) : varOf T [.nilP, .nilS] (some e) = .bld false T e .empty := rfl

end
end Go.Q
