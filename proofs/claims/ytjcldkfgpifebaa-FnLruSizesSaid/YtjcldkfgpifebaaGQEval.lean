/- An abstract interpreter of the translated code: equations for evaluation. Each asks for constructors, so that what stands below is evaluated first. -/
import Derived.Test.YtjcldkfgpifebaaGQTab
namespace Go.Q
set_option linter.unusedVariables false
set_option linter.unusedSimpArgs false
set_option linter.unusedSectionVars false
open Go
theorem ite_bind {α β : Type} {c : Prop} [Decidable c] (x y : Option α) (f : α → Option β) : (if c then x else y).bind f = if c then x.bind f else y.bind f := by split <;> rfl
theorem ite_map {α β : Type} {c : Prop} [Decidable c] (x y : Option α) (f : α → β) : (if c then x else y).map f = if c then x.map f else y.map f := by split <;> rfl
theorem bind_congr1 {α β : Type} {x y : Option α} {f : α → Option β} (h : x = y) : x.bind f = y.bind f := by rw [h]
theorem map_congr1 {α β : Type} {x y : Option α} {f : α → β} (h : x = y) : x.map f = y.map f := by rw [h]
section
variable {E : Env} {l : LoopF} {A : Ann} {k : Nat} {st : St} {s : Slots} {h : Heap} {ops rest : List Oper}
theorem env_tab (p : Prog) (c : CallF) (T : Nat) : (p.env c).tab T = p.tab T := rfl
theorem env_ty (p : Prog) (c : CallF) (T : Nat) : (p.env c).ty T = p.ty T := rfl
theorem env_by (p : Prog) (c : CallF) (g : Nat) : (p.env c).byref g = p.byref g := rfl
theorem env_call (p : Prog) (c : CallF) : (p.env c).call = c := rfl

/-! slots, heap -/
theorem sget_nil (j : Nat) : Slots.get [] j = .undef := rfl
theorem sget_cons (i : Nat) (v : AV) (s : Slots) (j : Nat) : Slots.get ((i, v) :: s) j = if i = j then v else Slots.get s j := rfl
theorem sset_nil (j : Nat) (v : AV) : Slots.set [] j v = [(j, v)] := rfl
theorem sset_cons (i : Nat) (u : AV) (s : Slots) (j : Nat) (v : AV) : Slots.set ((i, u) :: s) j v = if i = j then (j, v) :: s else if j < i then (j, v) :: (i, u) :: s else (i, u) :: Slots.set s j v := rfl
theorem sdrop_nil (j : Nat) : Slots.drop [] j = [] := rfl
theorem sdrop_cons (i : Nat) (u : AV) (s : Slots) (j : Nat) : Slots.drop ((i, u) :: s) j = if i = j then Slots.drop s j else (i, u) :: Slots.drop s j := rfl
theorem hget_nil (j : Nat) : Heap.get [] j = none := rfl
theorem hget_cons (i : Nat) (o : Obj) (h : Heap) (j : Nat) : Heap.get ((i, o) :: h) j = if i = j then some o else Heap.get h j := rfl
theorem hput_nil (j : Nat) (o : Obj) : Heap.put [] j o = [(j, o)] := rfl
theorem hput_cons (i : Nat) (o' : Obj) (h : Heap) (j : Nat) (o : Obj) : Heap.put ((i, o') :: h) j o = if i = j then (i, o) :: h else (i, o') :: Heap.put h j o := rfl
theorem st_put_some (t : Nat) (v : AV) : St.put ⟨s, h⟩ (some t) v = ⟨s.set t v, h⟩ := rfl
theorem st_put_none (v : AV) : St.put ⟨s, h⟩ none v = ⟨s, h⟩ := rfl
theorem eval_tmp (t : Nat) : eval ⟨s, h⟩ (.tmp t) = s.get t := rfl
theorem eval_const (v : Value) : eval ⟨s, h⟩ (.const v) = ofConst v := rfl
theorem eval_func (f : Nat) : eval ⟨s, h⟩ (.func f) = .fn f [] := rfl
theorem const_bool (b : Bool) : ofConst (.bool b) = .d .bool b := rfl
theorem const_int (k : IntKind) (n : Int) : ofConst (.int k n) = .d (.int k) n := rfl
theorem const_str (b : ByteArray) : ofConst (.string b) = .d .str b := rfl
theorem const_nilS : ofConst (.slice none 0 0) = .nilS := rfl
theorem const_nilI : ofConst .nilIface = .d .err false := rfl
theorem const_nilF : ofConst .nilFunc = .nilF := rfl
theorem const_nilP : ofConst (.pointer none) = .nilP := rfl
theorem const_agg (cs : Array Value) : ofConst (.agg cs) = .agg (cs.toList.map ofConst1) := rfl
theorem const1_bool (b : Bool) : ofConst1 (.bool b) = .d .bool b := rfl
theorem const1_int (k : IntKind) (n : Int) : ofConst1 (.int k n) = .d (.int k) n := rfl
theorem const1_str (b : ByteArray) : ofConst1 (.string b) = .d .str b := rfl
theorem const1_nilS : ofConst1 (.slice none 0 0) = .nilS := rfl

/-! regions -/
theorem runOps_nil : runOps E ops [] st = some st := rfl
theorem runOps_cons (d : Option Nat) (o : Op) (ty : Nat) (p : String) (af : Array Edge) : runOps E ops (⟨d, o, ty, p, af, none⟩ :: rest) st = (exOp E ⟨d, o, 0, "", #[], none⟩ st).bind (runOps E ops rest) := rfl
/-- An operation behind its guard. -/
def guarded (E : Env) (ops rest : List Oper) (d : Option Nat) (o : Op) (b : Bool) (st : St) (g : Nat) : AV → Option St
  | .d .bool x => if x = b then (exOp E ⟨d, o, 0, "", #[], none⟩ (st.put (some g) (.d .bool b))).bind (runOps E ops rest) else runOps E ops rest ((st.put (some g) (.d .bool (!b))).put d .skip)
  | .skip => runOps E ops rest (st.put d .skip)
  | _ => none
def guardAt (E : Env) (ops rest : List Oper) (d : Option Nat) (o : Op) (b : Bool) (st : St) (g : Nat) : Option St := guarded E ops rest d o b st g (st.get g)
theorem guardAt_eq (d : Option Nat) (o : Op) (b : Bool) (g : Nat) : guardAt E ops rest d o b ⟨s, h⟩ g = guarded E ops rest d o b ⟨s, h⟩ g (s.get g) := rfl
theorem runOps_guard (d : Option Nat) (o : Op) (ty : Nat) (p : String) (af : Array Edge) (j : Nat) (b : Bool) : runOps E ops (⟨d, o, ty, p, af, some (j, b)⟩ :: rest) st = (guardSlot ops j).bind (guardAt E ops rest d o b st) := by
  unfold runOps
  congr 1
theorem guarded_bool (d : Option Nat) (o : Op) (b : Bool) (g : Nat) (x : Bool) : guarded E ops rest d o b ⟨s, h⟩ g (.d .bool x) = if x = b then (exOp E ⟨d, o, 0, "", #[], none⟩ ⟨s.set g (.d .bool b), h⟩).bind (runOps E ops rest) else runOps E ops rest (St.put ⟨s.set g (.d .bool (!b)), h⟩ d .skip) := rfl
theorem guarded_skip (d : Option Nat) (o : Op) (b : Bool) (g : Nat) : guarded E ops rest d o b ⟨s, h⟩ g .skip = runOps E ops rest (St.put ⟨s, h⟩ d .skip) := rfl
theorem st_get (g : Nat) : St.get ⟨s, h⟩ g = s.get g := rfl
theorem gslot_zero (d : Option Nat) (o : Op) (ty : Nat) (p : String) (af : Array Edge) (gu : Option (Nat × Bool)) : guardSlot (⟨d, o, ty, p, af, gu⟩ :: ops) 0 = d := rfl
theorem gslot_succ (o : Oper) (n : Nat) : guardSlot (o :: ops) (n + 1) = guardSlot ops n := rfl

section
variable {d : Option Nat}
theorem ex_move (x : Operand) : exOp E ⟨d, .move x, 0, "", #[], none⟩ ⟨s, h⟩ = some (St.put ⟨s, h⟩ d (eval ⟨s, h⟩ x)) := rfl
theorem ex_assign (x : Operand) : exOp E ⟨d, .assign x, 0, "", #[], none⟩ ⟨s, h⟩ = some (St.put ⟨s, h⟩ d (eval ⟨s, h⟩ x)) := rfl
def pickOf (st : St) (x y : Operand) : AV → Option AV
  | .d .bool b => some (if b = true then eval st x else eval st y)
  | _ => none
theorem ex_pick (c x y : Operand) : exOp E ⟨d, .pick c x y, 0, "", #[], none⟩ ⟨s, h⟩ = (pickOf ⟨s, h⟩ x y (eval ⟨s, h⟩ c)).map (St.put ⟨s, h⟩ d) := by
  show Option.map _ (exVal E ⟨s, h⟩ (.pick c x y)) = _
  congr 1
theorem pickOf_bool (x y : Operand) (b : Bool) : pickOf ⟨s, h⟩ x y (.d .bool b) = some (if b = true then eval ⟨s, h⟩ x else eval ⟨s, h⟩ y) := rfl
theorem ex_build (T : Nat) (ps : Array (Nat × Operand)) : exOp E ⟨d, .build T ps, 0, "", #[], none⟩ ⟨s, h⟩ = (build E T (ps.toList.map fun p => (p.1, eval ⟨s, h⟩ p.2))).map (St.put ⟨s, h⟩ d) := rfl
theorem ex_load (T : Nat) (p : Operand) : exOp E ⟨d, .load T p, 0, "", #[], none⟩ ⟨s, h⟩ = (loadAt E h T (eval ⟨s, h⟩ p)).map (St.put ⟨s, h⟩ d) := rfl
def nilOf : AV → Option AV
  | .rp vs => some (.rp vs)
  | .op i off => some (.op i off)
  | .el p j off => some (.el p j off)
  | _ => none
theorem ex_nil (x : Operand) : exOp E ⟨d, .nilCheck x, 0, "", #[], none⟩ ⟨s, h⟩ = (nilOf (eval ⟨s, h⟩ x)).map (St.put ⟨s, h⟩ d) := by
  show Option.map _ (exVal E ⟨s, h⟩ (.nilCheck x)) = _
  congr 1
theorem nilOf_rp (vs : List AV) : nilOf (.rp vs) = some (.rp vs) := rfl
theorem nilOf_op (i off : Nat) : nilOf (.op i off) = some (.op i off) := rfl
theorem nilOf_el (p : Pl) (j off : Nat) : nilOf (.el p j off) = some (.el p j off) := rfl
theorem ex_bin (op : BinOp) (T : Nat) (x y : Operand) (Y : Nat) : exOp E ⟨d, .binOp op T x y Y, 0, "", #[], none⟩ ⟨s, h⟩ = (binOpH E h op T (eval ⟨s, h⟩ x) (eval ⟨s, h⟩ y)).map (St.put ⟨s, h⟩ d) := rfl
theorem ex_un (op : UnOp) (T : Nat) (x : Operand) : exOp E ⟨d, .unOp op T x, 0, "", #[], none⟩ ⟨s, h⟩ = (unOp op (eval ⟨s, h⟩ x)).map (St.put ⟨s, h⟩ d) := rfl
theorem ex_conv (S T : Nat) (x : Operand) : exOp E ⟨d, .convert S T x, 0, "", #[], none⟩ ⟨s, h⟩ = (convertT E h S T (eval ⟨s, h⟩ x)).map (St.put ⟨s, h⟩ d) := rfl
theorem ex_fn (f : Nat) (caps : Array Operand) : exOp E ⟨d, .makeFunc (.func f) #[] caps, 0, "", #[], none⟩ ⟨s, h⟩ = some (St.put ⟨s, h⟩ d (.fn f (caps.toList.map (eval ⟨s, h⟩)))) := rfl
theorem ex_slice (T : Nat) (x : Operand) (lo hi mx : Option Operand) : exOp E ⟨d, .slice T x lo hi mx, 0, "", #[], none⟩ ⟨s, h⟩ = ((optInt ⟨s, h⟩ lo).bind fun l => (optInt ⟨s, h⟩ hi).bind fun m => (optInt ⟨s, h⟩ mx).bind fun n => sliceT E h T (eval ⟨s, h⟩ x) l m n).map (St.put ⟨s, h⟩ d) := rfl
def intOf : AV → Option Int
  | .d (.int _) n => some n
  | _ => none
theorem intOf_int (k : IntKind) (n : Int) : intOf (.d (.int k) n) = some n := rfl
theorem opt_none : optInt ⟨s, h⟩ none = some none := rfl
theorem opt_some (x : Operand) : optInt ⟨s, h⟩ (some x) = (intOf (eval ⟨s, h⟩ x)).map some := by
  simp only [optInt, intOf]
  cases eval ⟨s, h⟩ x with
  | d t x => cases t <;> rfl
  | _ => rfl
theorem ex_fa (T : Nat) (x : Operand) (j : Nat) : exOp E ⟨d, .fieldAddr T x j, 0, "", #[], none⟩ ⟨s, h⟩ = (fieldAddr E T (eval ⟨s, h⟩ x) j).map (St.put ⟨s, h⟩ d) := rfl
theorem ex_field (T : Nat) (x : Operand) (j : Nat) : exOp E ⟨d, .field T x j, 0, "", #[], none⟩ ⟨s, h⟩ = (field E T (eval ⟨s, h⟩ x) j).map (St.put ⟨s, h⟩ d) := rfl
theorem ex_ia (T : Nat) (x i : Operand) : exOp E ⟨d, .indexAddr T x i, 0, "", #[], none⟩ ⟨s, h⟩ = ((intOf (eval ⟨s, h⟩ i)).bind fun n => indexAddr E h T (eval ⟨s, h⟩ x) n).map (St.put ⟨s, h⟩ d) := by
  show Option.map _ (exVal E ⟨s, h⟩ (.indexAddr T x i)) = _
  congr 1
  simp only [exVal, intOf]
  cases eval ⟨s, h⟩ i with
  | d t x => cases t <;> rfl
  | _ => rfl
theorem ex_index (T : Nat) (x i : Operand) : exOp E ⟨d, .index T x i, 0, "", #[], none⟩ ⟨s, h⟩ = ((intOf (eval ⟨s, h⟩ i)).bind fun n => index E T (eval ⟨s, h⟩ x) n).map (St.put ⟨s, h⟩ d) := by
  show Option.map _ (exVal E ⟨s, h⟩ (.index T x i)) = _
  congr 1
  simp only [exVal, intOf]
  cases eval ⟨s, h⟩ i with
  | d t x => cases t <;> rfl
  | _ => rfl
def extractOf (j : Nat) : AV → Option AV
  | .tuple vs => vs[j]?
  | _ => none
theorem extractOf_tuple (j : Nat) (vs : List AV) : extractOf j (.tuple vs) = vs[j]? := rfl
theorem ex_extract (x : Operand) (j : Nat) : exOp E ⟨d, .extract x j, 0, "", #[], none⟩ ⟨s, h⟩ = (extractOf j (eval ⟨s, h⟩ x)).map (St.put ⟨s, h⟩ d) := by
  show Option.map _ (exVal E ⟨s, h⟩ (.extract x j)) = _
  congr 1
theorem ex_len (x : Operand) (T : Nat) : exOp E ⟨d, .call ⟨.builtin .len, #[x], #[T]⟩, 0, "", #[], none⟩ ⟨s, h⟩ = (lenT E T h (eval ⟨s, h⟩ x)).map fun n => St.put ⟨s, h⟩ d (.d (.int .i64) n) := by
  show Option.map (St.put ⟨s, h⟩ d) ((lenT E T h (eval ⟨s, h⟩ x)).map fun n => AV.d (.int .i64) n) = _
  rw [Option.map_map]; rfl

theorem newId_some (t : Nat) : newId (some t) = 64 * (t % 10000) := rfl
theorem newId_none : newId none = 639936 := rfl
def put2 (d : Option Nat) (r : AV × St) : St := r.2.put d r.1
theorem put2_mk (v : AV) : put2 d (v, ⟨s, h⟩) = St.put ⟨s, h⟩ d v := rfl
def boxOf (id : Nat) (st : St) (ti : TI) (v : AV) : Option (AV × St) := if v.isUndef = false ∧ v.cells.length = ti.size then some (.op id 0, st.alloc id (.box v.cells)) else none
def boxVia (id : Nat) (st : St) (v : AV) (ti : TI) : Option (AV × St) := boxOf id st ti v
theorem boxVia_eq (id : Nat) (ti : TI) (v : AV) : boxVia id ⟨s, h⟩ v ti = boxOf id ⟨s, h⟩ ti v := rfl
theorem ex_box (T : Nat) (x : Operand) : exOp E ⟨d, .box T x, 0, "", #[], none⟩ ⟨s, h⟩ = ((E.tab T).bind (boxVia (newId d) ⟨s, h⟩ (eval ⟨s, h⟩ x))).map (put2 d) := rfl
theorem boxOf_eq (id : Nat) (ti : TI) (v : AV) : boxOf id ⟨s, h⟩ ti v = if v.isUndef = false ∧ v.cells.length = ti.size then some (.op id 0, St.alloc ⟨s, h⟩ id (.box v.cells)) else none := rfl
def allocWith (E : Env) (T : Nat) (ti : TI) (id : Nat) (st : St) (z : List AV) : Option (AV × St) := some (.op id 0, st.alloc id (varObj E.tab T ti z))
theorem allocWith_eq (T : Nat) (ti : TI) (id : Nat) (z : List AV) : allocWith E T ti id ⟨s, h⟩ z = some (.op id 0, St.alloc ⟨s, h⟩ id (varOf T z (bldOf E.tab T ti))) := rfl
def allocVia (E : Env) (T id : Nat) (st : St) (ti : TI) : Option (AV × St) := (zeros E.tab 8 T).bind (allocWith E T ti id st)
theorem allocVia_eq (T id : Nat) (ti : TI) : allocVia E T id ⟨s, h⟩ ti = (zeros E.tab 8 T).bind (allocWith E T ti id ⟨s, h⟩) := rfl
theorem ex_alloc (T : Nat) : exOp E ⟨d, .alloc T, 0, "", #[], none⟩ ⟨s, h⟩ = ((E.tab T).bind (allocVia E T (newId d) ⟨s, h⟩)).map (put2 d) := rfl
theorem ex_bs (T len : Nat) (ps : Array (Nat × Operand)) : exOp E ⟨d, .buildSlice T len ps, 0, "", #[], none⟩ ⟨s, h⟩ = (buildSlice E ⟨s, h⟩ (newId d) T len (ps.toList.map fun p => (p.1, eval ⟨s, h⟩ p.2))).map (put2 d) := rfl
theorem ex_store (T : Nat) (p x : Operand) : exOp E ⟨d, .store T p x, 0, "", #[], none⟩ ⟨s, h⟩ = (storeAt E ⟨s, h⟩ T (eval ⟨s, h⟩ p) (eval ⟨s, h⟩ x)).map fun s => s.put d .undef := by
  show Option.map _ ((storeAt E ⟨s, h⟩ T (eval ⟨s, h⟩ p) (eval ⟨s, h⟩ x)).map fun s => (AV.undef, s)) = _
  rw [Option.map_map]; rfl
theorem ex_ms (T : Nat) (n c : Operand) : exOp E ⟨d, .makeSlice T n c, 0, "", #[], none⟩ ⟨s, h⟩ = ((intOf (eval ⟨s, h⟩ n)).bind fun a => (intOf (eval ⟨s, h⟩ c)).bind fun b => makeSlice E ⟨s, h⟩ (newId d) T a b).map (put2 d) := by
  show Option.map _ (exWrite E ⟨s, h⟩ (newId d) (.makeSlice T n c)) = _
  congr 1
  simp only [exWrite, intOf]
  cases eval ⟨s, h⟩ n with
  | d t x =>
    cases t with
    | int k =>
      cases eval ⟨s, h⟩ c with
      | d t' x' => cases t' <;> rfl
      | _ => rfl
    | _ => rfl
  | _ => rfl
theorem ex_append (x y : Operand) (T T2 : Nat) : exOp E ⟨d, .call ⟨.builtin .append, #[x, y], #[T, T2]⟩, 0, "", #[], none⟩ ⟨s, h⟩ = (append E ⟨s, h⟩ (newId d) T T2 (eval ⟨s, h⟩ x) (eval ⟨s, h⟩ y)).map (put2 d) := rfl
theorem ex_copy (x y : Operand) (T T2 : Nat) : exOp E ⟨d, .call ⟨.builtin .copy, #[x, y], #[T, T2]⟩, 0, "", #[], none⟩ ⟨s, h⟩ = (copy E ⟨s, h⟩ T T2 (eval ⟨s, h⟩ x) (eval ⟨s, h⟩ y)).map (put2 d) := rfl
theorem ex_clear (x : Operand) (T : Nat) : exOp E ⟨d, .call ⟨.builtin .clear, #[x], #[T]⟩, 0, "", #[], none⟩ ⟨s, h⟩ = (clear E ⟨s, h⟩ T (eval ⟨s, h⟩ x)).map (put2 d) := rfl
/-- A call. -/
def callVia (E : Env) (st : St) (id : Nat) (vs : List AV) : AV → Option (AV × St)
  | .fn g caps => callG E st id g (vs ++ caps)
  | _ => none
theorem ex_call (f : Operand) (xs : Array Operand) (ts : Array Nat) : exOp E ⟨d, .call ⟨.value f, xs, ts⟩, 0, "", #[], none⟩ ⟨s, h⟩ = (callVia E ⟨s, h⟩ (newId d) (xs.toList.map (eval ⟨s, h⟩)) (eval ⟨s, h⟩ f)).map (put2 d) := by
  show Option.map _ (exWrite E ⟨s, h⟩ (newId d) (.call ⟨.value f, xs, ts⟩)) = _
  congr 1
theorem callVia_fn (id : Nat) (vs : List AV) (g : Nat) (caps : List AV) : callVia E ⟨s, h⟩ id vs (.fn g caps) = callG E ⟨s, h⟩ id g (vs ++ caps) := rfl
end

/-! code -/
theorem prun_skip : prun E l A k .skip st = some (.normal, st) := rfl
/-- What is left of a region. -/
def dropsVia (s : St) : Option (List Nat) → St
  | none => s
  | some ts => ⟨dropAll ts s.tmps, s.heap⟩
def plainsVia (s : St) : Option (List Nat) → St
  | none => s
  | some ts => plains ts s
def homesVia (s : St) : Option (List Nat) → St
  | none => s
  | some ts => homes ts s
def subsVia (s : St) : Option (List Nat) → St
  | none => s
  | some ts => subs ts s
def leaveR (A : Ann) (id : Nat) (s : St) : Ex × St := (.normal, subsVia (homesVia (plainsVia (dropsVia s (lookT A.drops id)) (lookT A.plain id)) (lookT A.homes id)) (lookT A.subs id))
theorem leave_eq (id : Nat) : leaveR A id ⟨s, h⟩ = (.normal, subsVia (homesVia (plainsVia (dropsVia ⟨s, h⟩ (lookT A.drops id)) (lookT A.plain id)) (lookT A.homes id)) (lookT A.subs id)) := rfl
theorem dropsVia_none : dropsVia st none = st := rfl
theorem dropsVia_some (ts : List Nat) : dropsVia ⟨s, h⟩ (some ts) = ⟨dropAll ts s, h⟩ := rfl
theorem plainsVia_none : plainsVia st none = st := rfl
theorem plainsVia_some (ts : List Nat) : plainsVia st (some ts) = plains ts st := rfl
theorem homesVia_none : homesVia st none = st := rfl
theorem homesVia_some (ts : List Nat) : homesVia st (some ts) = homes ts st := rfl
theorem subsVia_none : subsVia st none = st := rfl
theorem subsVia_some (ts : List Nat) : subsVia st (some ts) = subs ts st := rfl
theorem subs_nil (st : St) : subs [] st = st := rfl
theorem subs_cons (t : Nat) (ts : List Nat) : subs (t :: ts) ⟨s, h⟩ = subs ts (subV ⟨s, h⟩ t (s.get t)) := rfl
def subArr (st : St) (t : Nat) (p : Pl) : Option AV → St
  | some (.d (.slice _) xs) => st.set t (.sub p 0 (List.length xs))
  | _ => st
theorem subV_os (t : Nat) (p : Pl) : subV ⟨s, h⟩ t (.os p) = subArr ⟨s, h⟩ t p (h.arrAt p) := by
  simp only [subV, subArr]
  cases h.arrAt p with
  | none => rfl
  | some v => cases v <;> first | rfl | (rename_i t x; cases t <;> rfl)
theorem subArr_some (t : Nat) (p : Pl) (ty : Ty) (xs : List ty.Den) : subArr ⟨s, h⟩ t p (some (.d (.slice ty) xs)) = ⟨s.set t (.sub p 0 (List.length xs)), h⟩ := rfl
theorem subV_sub (t : Nat) (p : Pl) (a n : Nat) : subV ⟨s, h⟩ t (.sub p a n) = ⟨s, h⟩ := rfl
theorem subV_nilS (t : Nat) : subV ⟨s, h⟩ t .nilS = ⟨s, h⟩ := rfl
theorem subV_d (t : Nat) (ty : Ty) (x : ty.Den) : subV ⟨s, h⟩ t (.d ty x) = ⟨s, h⟩ := rfl
theorem plains_nil (st : St) : plains [] st = st := rfl
theorem homes_nil (st : St) : homes [] st = st := rfl
theorem homes_cons (t : Nat) (ts : List Nat) : homes (t :: ts) ⟨s, h⟩ = homes ts (homeV ⟨s, h⟩ (64 * t) (s.get t)) := rfl
theorem homeV_os (home i : Nat) : homeV ⟨s, h⟩ home (.os (.t i)) = homeO ⟨s, h⟩ i home (h.get i) := rfl
theorem homeV_op (home i off : Nat) : homeV ⟨s, h⟩ home (.op i off) = homeO ⟨s, h⟩ i home (h.get i) := rfl
theorem homeV_mp (home i : Nat) : homeV ⟨s, h⟩ home (.mp i) = homeO ⟨s, h⟩ i home (h.get i) := rfl
theorem homeV_nilS (home : Nat) : homeV ⟨s, h⟩ home .nilS = ⟨s, h⟩ := rfl
theorem homeV_empS (home : Nat) : homeV ⟨s, h⟩ home .empS = ⟨s, h⟩ := rfl
theorem homeV_d (home : Nat) (t : Ty) (x : t.Den) : homeV ⟨s, h⟩ home (.d t x) = ⟨s, h⟩ := rfl
theorem homeO_some (id home : Nat) (o : Obj) : homeO ⟨s, h⟩ id home (some o) = if id ≠ home ∧ id < lentFrom ∧ home < lentFrom then ⟨Slots.mapR (homeF id home) s, (Heap.sans id home (Heap.mapR (homeF id home) h)).put home (o.mapR (homeF id home))⟩ else ⟨s, h⟩ := rfl
theorem sans_nil (a b : Nat) : Heap.sans a b [] = [] := rfl
theorem sans_cons (a b i : Nat) (o : Obj) : Heap.sans a b ((i, o) :: h) = if i = a ∨ i = b then Heap.sans a b h else (i, o) :: Heap.sans a b h := rfl
theorem homeF_os (id home i : Nat) : homeF id home (.os (.t i)) = if i = home then .undef else .os (.t (if i = id then home else i)) := rfl
theorem homeF_sub (id home i a n : Nat) : homeF id home (.sub (.t i) a n) = if i = home then .undef else .sub (.t (if i = id then home else i)) a n := rfl
theorem homeF_el (id home i a n : Nat) : homeF id home (.el (.t i) a n) = if i = home then .undef else .el (.t (if i = id then home else i)) a n := rfl
theorem homeF_op (id home i off : Nat) : homeF id home (.op i off) = if i = home then .undef else .op (if i = id then home else i) off := rfl
theorem homeF_mp (id home i : Nat) : homeF id home (.mp i) = if i = home then .undef else .mp (if i = id then home else i) := rfl
theorem plains_cons (t : Nat) (ts : List Nat) : plains (t :: ts) ⟨s, h⟩ = plains ts (plainA s h (s.get t)) := rfl
theorem plainA_op (id : Nat) : plainA s h (.op id 0) = plainO s h id (h.get id) := rfl
theorem plainA_agg (vs : List AV) : plainA s h (.agg vs) = plainG (freezes 8 ⟨s, h⟩ vs) ⟨s, h⟩ := rfl
theorem plainA_os (p : Pl) : plainA s h (.os p) = plainG (freezes 8 ⟨s, h⟩ [.os p]) ⟨s, h⟩ := rfl
theorem plainA_sub (p : Pl) (a n : Nat) : plainA s h (.sub p a n) = plainG (freezes 8 ⟨s, h⟩ [.sub p a n]) ⟨s, h⟩ := rfl
theorem plainA_nilS : plainA s h .nilS = ⟨s, h⟩ := rfl
theorem plainA_empS : plainA s h .empS = ⟨s, h⟩ := rfl
theorem plainA_d (t : Ty) (x : t.Den) : plainA s h (.d t x) = ⟨s, h⟩ := rfl
theorem plainO_box (id : Nat) (vs : List AV) : plainO s h id (some (.box vs)) = plainF id (freezes 8 ⟨s, h⟩ vs) ⟨s, h⟩ := rfl
theorem plainF_some (id : Nat) (vs : List AV) (s' : Slots) (h' : Heap) (st : St) : plainF id (some (vs, ⟨s', h'⟩)) st = plainB s' h' id (h'.get id) := rfl
theorem plainG_some (vs : List AV) (st' st : St) : plainG (some (vs, st')) st = st' := rfl
theorem plainB_box (id : Nat) (vs : List AV) : plainB s h id (some (.box vs)) = if AV.owneds vs = false then ⟨Slots.mapR (boxedF id vs) s, (Heap.mapR (boxedF id vs) h).put id .dead⟩ else ⟨s, h⟩ := rfl
theorem boxedF_os (id : Nat) (vs : List AV) (p : Pl) : boxedF id vs (.os p) = if p.id = id then .undef else .os p := rfl
theorem boxedF_sub (id : Nat) (vs : List AV) (p : Pl) (a n : Nat) : boxedF id vs (.sub p a n) = if p.id = id then .undef else .sub p a n := rfl
theorem boxedF_el (id : Nat) (vs : List AV) (p : Pl) (a n : Nat) : boxedF id vs (.el p a n) = if p.id = id then .undef else .el p a n := rfl
theorem boxedF_op (id : Nat) (vs : List AV) (i off : Nat) : boxedF id vs (.op i off) = if i = id then .rp (vs.drop off) else .op i off := rfl
theorem boxedF_mp (id : Nat) (vs : List AV) (i : Nat) : boxedF id vs (.mp i) = if i = id then .undef else .mp i := rfl
theorem drop_nil : dropAll [] s = s := rfl
theorem drop_cons (t : Nat) (ts : List Nat) : dropAll (t :: ts) s = dropAll ts (s.drop t) := rfl
def beforeVia (s : Slots) (h : Heap) : Option (List Nat) → St
  | some ts => ⟨dropAll ts s, h⟩
  | none => ⟨s, h⟩
theorem beforeVia_some (ts : List Nat) : beforeVia s h (some ts) = ⟨dropAll ts s, h⟩ := rfl
theorem beforeVia_none : beforeVia s h none = ⟨s, h⟩ := rfl
theorem before_text (id : Nat) : A.before id false ⟨s, h⟩ = ⟨s, h⟩ := rfl
theorem before_draw (id : Nat) : A.before id true ⟨s, h⟩ = beforeVia s h (lookT A.early id) := by
  simp only [Ann.before, if_true]
  cases lookT A.early id <;> rfl
theorem prun_region (id : Nat) (ops : Array Oper) (dr : Bool) : prun E l A k (.region id ops dr) st = (forksOf E ops.toList (A.before id dr st) (otherOrders A id ops dr) (runOps E ops.toList (orderOf A id ops dr) (A.before id dr st))).map (leaveR A id) := by
  rw [prun]
  congr 1
  funext s
  simp only [leaveR]
  cases lookT A.drops id <;> cases lookT A.plain id <;> cases lookT A.homes id <;> cases lookT A.subs id <;> rfl
/-! other orders -/
noncomputable def forkWith (E : Env) (ops : List Oper) (st : St) (os : List Oper) (s1 : St) : Option St := forkTo s1 (runOps E ops os st)
theorem forksOf_nil (ops : List Oper) (r : Option St) : forksOf E ops st [] r = r := rfl
theorem forksOf_cons (ops os : List Oper) (L : List (List Oper)) (r : Option St) : forksOf E ops st (os :: L) r = forksOf E ops st L (r.bind (forkWith E ops st os)) := rfl
def orderAt (ops : Array Oper) (l : List Nat) : List Oper := l.filterMap (ops.toList[·]?)
def othersVia (ops : Array Oper) : Option (List (List Nat)) → List (List Oper)
  | some L => L.map (orderAt ops)
  | none => []
theorem others_text (id : Nat) (ops : Array Oper) : otherOrders A id ops false = [] := rfl
theorem others_draw (id : Nat) (ops : Array Oper) : otherOrders A id ops true = othersVia ops (lookT A.forks id) := by
  simp only [otherOrders, if_true, othersVia]
  cases lookT A.forks id <;> rfl
theorem othersVia_none (ops : Array Oper) : othersVia ops none = [] := rfl
theorem othersVia_nil (ops : Array Oper) : othersVia ops (some []) = [] := rfl
theorem othersVia_cons (ops : Array Oper) (l : List Nat) (L : List (List Nat)) : othersVia ops (some (l :: L)) = orderAt ops l :: othersVia ops (some L) := rfl
theorem orderAt_eq (ops : Array Oper) (l : List Nat) : orderAt ops l = l.filterMap (ops.toList[·]?) := rfl
theorem forkWith_eq (ops os : List Oper) (s1 : Slots) (h1 : Heap) : forkWith E ops st os ⟨s1, h1⟩ = forkTo ⟨s1, h1⟩ (runOps E ops os st) := rfl
def keysOf : Heap → List Nat
  | [] => []
  | x :: h => x.1 :: keysOf h
theorem keysOf_eq : ∀ h : Heap, keysOf h = h.map (·.1)
  | [] => rfl
  | x :: h => by rw [keysOf, keysOf_eq h]; rfl
theorem keysOf_nil : keysOf [] = [] := rfl
theorem keysOf_cons (i : Nat) (o : Obj) : keysOf ((i, o) :: h) = i :: keysOf h := rfl
theorem sameL_nil (h1 h2 : Heap) : sameL h1 h2 [] = True := rfl
theorem sameL_cons (h1 h2 : Heap) (i : Nat) (l : List Nat) : sameL h1 h2 (i :: l) = (h1.get i = h2.get i ∧ sameL h1 h2 l) := rfl
open Classical in
theorem forkTo_mk (s1 s2 : Slots) (h1 h2 : Heap) : forkTo ⟨s1, h1⟩ (some ⟨s2, h2⟩) = if agree ⟨s1, h1⟩ ⟨s2, h2⟩ then some ⟨s1, h1⟩ else none := rfl
theorem agree_mk (s1 s2 : Slots) (h1 h2 : Heap) : agree ⟨s1, h1⟩ ⟨s2, h2⟩ = (s1 = s2 ∧ sameL h1 h2 (keysOf h1 ++ keysOf h2)) := by
  simp only [agree, keysOf_eq]
theorem forkTo_none (s1 : St) : forkTo s1 none = none := rfl
theorem order_text (id : Nat) (ops : Array Oper) : orderOf A id ops false = ops.toList := rfl
def orderVia (ops : Array Oper) : Option (List Nat) → List Oper
  | some l => l.filterMap (ops.toList[·]?)
  | none => ops.toList
theorem order_draw (id : Nat) (ops : Array Oper) : orderOf A id ops true = orderVia ops (lookT A.ord id) := rfl
theorem orderVia_some (ops : Array Oper) (l : List Nat) : orderVia ops (some l) = l.filterMap (ops.toList[·]?) := rfl
theorem orderVia_none (ops : Array Oper) : orderVia ops none = ops.toList := rfl
theorem look_nil {α : Type} (j : Nat) : lookT ([] : List (Nat × α)) j = none := rfl
theorem look_cons {α : Type} (i : Nat) (x : α) (l : List (Nat × α)) (j : Nat) : lookT ((i, x) :: l) j = if i = j then some x else lookT l j := rfl
/-- What follows. -/
noncomputable def andThen (E : Env) (l : LoopF) (A : Ann) (k : Nat) (b : Code) (r : Ex × St) : Option (Ex × St) := match r.1 with
  | .normal => prun E l A k b r.2
  | _ => some r
theorem andThen_normal (b : Code) : andThen E l A k b (.normal, st) = prun E l A k b st := rfl
theorem andThen_exit (b : Code) (i : Nat) : andThen E l A k b (.exit i, st) = some (.exit i, st) := rfl
theorem andThen_ret (b : Code) : andThen E l A k b (.ret, st) = some (.ret, st) := rfl
theorem prun_seq (a b : Code) : prun E l A k (.seq a b) st = (prun E l A k a st).bind (andThen E l A (k + nLoops a) b) := rfl
/-- A condition. -/
noncomputable def condOf (E : Env) (l : LoopF) (A : Ann) (k : Nat) (a b : Code) (st : St) : AV → Option (Ex × St)
  | .d .bool x => if x = true then prun E l A k a st else prun E l A (k + nLoops a) b st
  | _ => none
theorem prun_cond (t : Nat) (a b : Code) : prun E l A k (.cond (.tmp t) a b) ⟨s, h⟩ = condOf E l A k a b ⟨s.drop t, h⟩ (s.get t) := by
  simp only [prun, condOf, eval, St.get]
  cases s.get t with
  | d ty x => cases ty <;> rfl
  | _ => rfl
theorem prun_condc (v : Value) (a b : Code) : prun E l A k (.cond (.const v) a b) ⟨s, h⟩ = condOf E l A k a b ⟨s, h⟩ (ofConst v) := by
  simp only [prun, condOf, eval]
  cases ofConst v with
  | d ty x => cases ty <;> rfl
  | _ => rfl
theorem condOf_bool (a b : Code) (x : Bool) : condOf E l A k a b st (.d .bool x) = if x = true then prun E l A k a st else prun E l A (k + nLoops a) b st := rfl
def unblock (id : Nat) (r : Ex × St) : Ex × St := match r.1 with
  | .exit i => if i = id then (.normal, r.2) else r
  | _ => r
theorem unblock_normal (id : Nat) : unblock id (.normal, st) = (.normal, st) := rfl
theorem unblock_ret (id : Nat) : unblock id (.ret, st) = (.ret, st) := rfl
theorem unblock_exit (id i : Nat) : unblock id (.exit i, st) = if i = id then (.normal, st) else (.exit i, st) := rfl
theorem prun_block (id : Nat) (c : Code) : prun E l A k (.block id c) st = (prun E l A k c st).map (unblock id) := rfl
theorem prun_loop (c : Code) : prun E l A k (.loop c) st = l k (A.enter k st) := rfl
theorem prun_exit (id : Nat) : prun E l A k (.exit id) st = some (.exit id, st) := rfl
theorem prun_ret : prun E l A k .ret st = some (.ret, st) := rfl
theorem prun_scope (c : Code) : prun E l A k (.scope c) st = prun E l A k c st := rfl
theorem prun_label (i : Nat) : prun E l A k (.label i) st = some (.normal, st) := rfl
theorem gc_nil : St.gc ⟨s, []⟩ = ⟨s, []⟩ := rfl
theorem gc_cons (x : Nat × Obj) : St.gc ⟨s, x :: h⟩ = ⟨s, gc1 s (gc1 s (x :: h))⟩ := rfl
theorem nl_skip : nLoops .skip = 0 := rfl
theorem nl_region (id : Nat) (ops : Array Oper) (d : Bool) : nLoops (.region id ops d) = 0 := rfl
theorem nl_seq (a b : Code) : nLoops (.seq a b) = nLoops a + nLoops b := rfl
theorem nl_cond (c : Operand) (a b : Code) : nLoops (.cond c a b) = nLoops a + nLoops b := rfl
theorem nl_block (i : Nat) (c : Code) : nLoops (.block i c) = nLoops c := rfl
theorem nl_loop (c : Code) : nLoops (.loop c) = nLoops c + 1 := rfl
theorem nl_exit (i : Nat) : nLoops (.exit i) = 0 := rfl
theorem nl_ret : nLoops .ret = 0 := rfl
theorem nl_label (i : Nat) : nLoops (.label i) = 0 := rfl
theorem nl_scope (c : Code) : nLoops (.scope c) = nLoops c := rfl


/-! loops' beginnings -/
def enterVia (st : St) : Option (List NilAt) → St
  | some ns => (unnil ns st).gc
  | none => st.gc
theorem enter_eq : A.enter k ⟨s, h⟩ = enterVia ⟨s, h⟩ (lookT A.nils k) := by unfold Ann.enter enterVia; rfl
theorem enterVia_none : enterVia ⟨s, h⟩ none = St.gc ⟨s, h⟩ := rfl
theorem enterVia_some (ns : List NilAt) : enterVia ⟨s, h⟩ (some ns) = (unnil ns ⟨s, h⟩).gc := rfl
theorem unnil_nil : unnil [] ⟨s, h⟩ = ⟨s, h⟩ := rfl
theorem unnil_cons (n : NilAt) (ns : List NilAt) : unnil (n :: ns) ⟨s, h⟩ = unnil ns (unnil1 n ⟨s, h⟩) := rfl
def unnilSlot (t id : Nat) (ty : Ty) (st : St) : AV → St
  | .nilS => if id < lentFrom then (emptyArr id ty st).set t (.os (.t id)) else st
  | _ => st
theorem unnil1_slot (t id : Nat) (ty : Ty) : unnil1 (.slot t id ty) ⟨s, h⟩ = unnilSlot t id ty ⟨s, h⟩ (s.get t) := by
  simp only [unnil1, unnilSlot, St.get]
  cases s.get t <;> rfl
theorem unnilSlot_nil (t id : Nat) (ty : Ty) : unnilSlot t id ty ⟨s, h⟩ .nilS = if id < lentFrom then (emptyArr id ty ⟨s, h⟩).set t (.os (.t id)) else ⟨s, h⟩ := rfl
theorem unnilSlot_os (t id : Nat) (ty : Ty) (p : Pl) : unnilSlot t id ty ⟨s, h⟩ (.os p) = ⟨s, h⟩ := rfl
theorem unnilSlot_sub (t id : Nat) (ty : Ty) (p : Pl) (a n : Nat) : unnilSlot t id ty ⟨s, h⟩ (.sub p a n) = ⟨s, h⟩ := rfl
theorem unnilSlot_d (t id : Nat) (ty t' : Ty) (x : t'.Den) : unnilSlot t id ty ⟨s, h⟩ (.d t' x) = ⟨s, h⟩ := rfl
def unnilCell (t c id : Nat) (ty : Ty) (st : St) : AV → St
  | .agg vs => match getL vs c with
    | some .nilS => if id < lentFrom then (emptyArr id ty st).set t (.agg (setL c (.os (.t id)) (AV.mapRs (killF id) vs))) else st
    | _ => st
  | _ => st
theorem unnil1_cell (t c id : Nat) (ty : Ty) : unnil1 (.cell t c id ty) ⟨s, h⟩ = unnilCell t c id ty ⟨s, h⟩ (s.get t) := by
  simp only [unnil1, unnilCell, St.get]
  cases s.get t <;> rfl
def unnilBox (b c id : Nat) (ty : Ty) (st : St) : Option Obj → St
  | some (.box vs) => match getL vs c with
    | some .nilS => if id < lentFrom ∧ b ≠ id then ⟨(emptyArr id ty st).tmps, (emptyArr id ty st).heap.put b (.box (setL c (.os (.t id)) (AV.mapRs (killF id) vs)))⟩ else st
    | _ => st
  | _ => st
theorem unnil1_box (b c id : Nat) (ty : Ty) : unnil1 (.box b c id ty) ⟨s, h⟩ = unnilBox b c id ty ⟨s, h⟩ (h.get b) := by
  simp only [unnil1, unnilBox]
  cases h.get b with
  | none => rfl
  | some o => cases o <;> rfl
theorem emptyArr_eq (id : Nat) (t : Ty) : emptyArr id t ⟨s, h⟩ = St.alloc ⟨s, h⟩ id (.arr true t.refs t []) := rfl
theorem st_set (t : Nat) (v : AV) : St.set ⟨s, h⟩ t v = ⟨s.set t v, h⟩ := rfl
theorem st_tmps : St.tmps ⟨s, h⟩ = s := rfl
theorem st_heap : St.heap ⟨s, h⟩ = h := rfl

/-! functions -/
def done (E : Env) (f : Func) (r : Ex × St) : Option (AV × Heap) := match r.1 with
  | .exit _ => none
  | _ => finish E f r.2
theorem done_normal (f : Func) : done E f (.normal, st) = finish E f st := rfl
theorem done_ret (f : Func) : done E f (.ret, st) = finish E f st := rfl
theorem call_eq (p : Prog) (f : Nat) (vs : List AV) (hp : Heap) (F : Func) (hf : p.fn f = some F) (b : Code) (hF : F.body = some b) (A : Ann) (hA : p.ann f = A) (hn : decide (vs.length ≤ F.ntmps) = true) : callOf p f vs hp = (prun (p.env (callOf p)) (loopOf p f) A 0 b ⟨bind0 0 vs, hp⟩).bind (done (p.env (callOf p)) F) := by
  rw [Call_unfold, hf, hA]
  simp only
  unfold runFn
  rw [if_pos (of_decide_eq_true hn), hF]; rfl
theorem given_eq (p : Prog) (f : Nat) (vs : List AV) (hp : Heap) (hf : p.fn f = none) : callOf p f vs hp = p.given f vs hp := by
  rw [Call_unfold, hf]
/-- The next round. -/
def again (A : Ann) (l : LoopF) (k : Nat) (r : Ex × St) : Option (Ex × St) := match r.1 with
  | .normal => l k (A.enter k r.2)
  | _ => some r
theorem again_normal : again A l k (.normal, st) = l k (A.enter k st) := rfl
theorem again_exit (i : Nat) : again A l k (.exit i, st) = some (.exit i, st) := rfl
theorem again_ret : again A l k (.ret, st) = some (.ret, st) := rfl
theorem loop_eq (p : Prog) (f k : Nat) (st : St) (F : Func) (hf : p.fn f = some F) (b : Code) (hF : F.body = some b) (A : Ann) (hA : p.ann f = A) (c : Code) (hc : loopIn b k = some c) : loopOf p f k st = (prun (p.env (callOf p)) (loopOf p f) A (k + 1) c st).bind (again A (loopOf p f) k) := by
  rw [Loop_unfold, hf, hA]
  simp only [runLoop, hF, Option.bind_some, hc]; rfl
/-- What leaves a function. -/
def finish2 (h : Heap) (vs : List AV) : AV × Heap := leave (shrinks (subsOf vs) vs h)
theorem finish_eq (F : Func) (rs : List ResultVar) (hr : F.results.toList = rs) : finish E F ⟨s, h⟩ = (mapO (resultVar E ⟨s, h⟩) rs).map (finish2 h) := by
  subst hr; rfl
theorem finish2_eq (vs : List AV) : finish2 h vs = leave (shrinks (subsOf vs) vs h) := rfl
theorem leave_mk (vs : List AV) : leave (vs, h) = (tupleOf vs, (St.gc ⟨[(0, .tuple vs)], h⟩).heap) := rfl
theorem shrinks_nil (vs : List AV) : shrinks [] vs h = (vs, h) := rfl
theorem tupleOf_one (u : AV) : tupleOf [u] = u := rfl
theorem tupleOf_two (u v : AV) (us : List AV) : tupleOf (u :: v :: us) = .tuple (u :: v :: us) := rfl
theorem tupleOf_nil : tupleOf [] = .tuple [] := rfl
theorem rv_tmp (t : Nat) : resultVar E ⟨s, h⟩ (.tmp t) = some (s.get t) := rfl
theorem rv_cell (a T : Nat) : resultVar E ⟨s, h⟩ (.cell a T) = loadAt E h T (s.get a) := rfl
theorem mapO_nil {α β : Type} (f : α → Option β) : mapO f [] = some [] := rfl
def mapO2 {α β : Type} (f : α → Option β) (xs : List α) (y : β) : Option (List β) := (mapO f xs).map (List.cons y)
theorem mapO_cons {α β : Type} (f : α → Option β) (x : α) (xs : List α) : mapO f (x :: xs) = (f x).bind (mapO2 f xs) := rfl
theorem mapO2_eq {α β : Type} (f : α → Option β) (xs : List α) (y : β) : mapO2 f xs y = (mapO f xs).map (List.cons y) := rfl
theorem bind0_nil (i : Nat) : bind0 i [] = [] := rfl
theorem bind0_cons (i : Nat) (v : AV) (vs : List AV) : bind0 i (v :: vs) = (i, v) :: bind0 (i + 1) vs := rfl
theorem asDen_self' (t : Ty) (x : t.Den) : asDen t (.d t x) = some x := asDen_self t x
theorem asList_self (t : Ty) (x : List t.Den) : asList t (.d (.slice t) x) = some x := by simp [asList, asDen_self]
end
end Go.Q
