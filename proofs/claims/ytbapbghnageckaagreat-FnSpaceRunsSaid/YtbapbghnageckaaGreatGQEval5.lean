/- An abstract interpreter of the translated code: equations for evaluation. Each asks for constructors, so that what stands below is evaluated first. -/
import Derived.Test.YtbapbghnageckaaGreatGQTab
namespace Go.Q
set_option linter.unusedVariables false
set_option linter.unusedSimpArgs false
set_option linter.unusedSectionVars false
open Go
theorem ite_bind {α β : Type} {c : Prop} [Decidable c] (x y : Option α) (f : α → Option β) : (if c then x else y).bind f = if c then x.bind f else y.bind f := by split <;> rfl
theorem ite_map {α β : Type} {c : Prop} [Decidable c] (x y : Option α) (f : α → β) : (if c then x else y).map f = if c then x.map f else y.map f := by split <;> rfl
section
variable {E : Env} {l : LoopF} {A : Ann} {k : Nat} {st : St} {s : Slots} {h : Heap} {ops rest : List Oper}
theorem env_tab (p : Prog) (c : CallF) (T : Nat) : (p.env c).tab T = p.tab T := rfl
theorem env_ty (p : Prog) (c : CallF) (T : Nat) : (p.env c).ty T = p.ty T := rfl
theorem env_by (p : Prog) (c : CallF) (g : Nat) : (p.env c).byref g = p.byref g := rfl
theorem env_call (p : Prog) (c : CallF) : (p.env c).call = c := rfl

theorem sget_nil (j : Nat) : Slots.get [] j = .undef := rfl
theorem sget_cons (i : Nat) (v : AV) (s : Slots) (j : Nat) : Slots.get ((i, v) :: s) j = if i = j then v else Slots.get s j := rfl
theorem sset_nil (j : Nat) (v : AV) : Slots.set [] j v = [(j, v)] := rfl
theorem sset_cons (i : Nat) (u : AV) (s : Slots) (j : Nat) (v : AV) : Slots.set ((i, u) :: s) j v = if i = j then (j, v) :: s else if j < i then (j, v) :: (i, u) :: s else (i, u) :: Slots.set s j v := rfl
theorem sdrop_nil (j : Nat) : Slots.drop [] j = [] := rfl
theorem sdrop_cons (i : Nat) (u : AV) (s : Slots) (j : Nat) : Slots.drop ((i, u) :: s) j = if i = j then Slots.drop s j else (i, u) :: Slots.drop s j := rfl
theorem hget_nil (j : Nat) : Heap.get [] j = none := rfl
theorem hget_cons (i : Nat) (o : Obj) (h : Heap) (j : Nat) : Heap.get ((i, o) :: h) j = if i = j then some o else Heap.get h j := rfl
theorem hput_nil (j : Nat) (o : Obj) : Heap.put [] j o = [(j, o)] := rfl
theorem hput_cons (i : Nat) (o' : Obj) (h : Heap) (j : Nat) (o : Obj) : Heap.put ((i, o') :: h) j o = if i = j then (i, o) :: h else (i, o') :: Heap.put h j o := rfl
theorem st_put_some (t : Nat) (v : AV) : St.put ⟨s, h⟩ (some t) v = ⟨s.set t v, h⟩ := rfl
theorem st_put_none (v : AV) : St.put ⟨s, h⟩ none v = ⟨s, h⟩ := rfl
theorem eval_tmp (t : Nat) : eval ⟨s, h⟩ (.tmp t) = s.get t := rfl
theorem eval_const (v : Value) : eval ⟨s, h⟩ (.const v) = ofConst v := rfl
theorem eval_func (f : Nat) : eval ⟨s, h⟩ (.func f) = .fn f [] := rfl
theorem const_bool (b : Bool) : ofConst (.bool b) = .d .bool b := rfl
theorem const_int (k : IntKind) (n : Int) : ofConst (.int k n) = .d (.int k) n := rfl
theorem const_nilS : ofConst (.slice none 0 0) = .nilS := rfl
theorem const_nilI : ofConst .nilIface = .d .err false := rfl
theorem const_nilF : ofConst .nilFunc = .nilF := rfl
theorem const_nilP : ofConst (.pointer none) = .nilP := rfl
theorem const_agg (cs : Array Value) : ofConst (.agg cs) = .agg (cs.toList.map ofConst1) := rfl
theorem const1_bool (b : Bool) : ofConst1 (.bool b) = .d .bool b := rfl
theorem const1_int (k : IntKind) (n : Int) : ofConst1 (.int k n) = .d (.int k) n := rfl
theorem const1_str (b : ByteArray) : ofConst1 (.string b) = .d .str b := rfl
theorem const1_nilS : ofConst1 (.slice none 0 0) = .nilS := rfl

theorem runOps_nil : runOps E ops [] st = some st := rfl
theorem runOps_cons (d : Option Nat) (o : Op) (ty : Nat) (p : String) (af : Array Edge) : runOps E ops (⟨d, o, ty, p, af, none⟩ :: rest) st = (exOp E ⟨d, o, 0, "", #[], none⟩ st).bind (runOps E ops rest) := rfl
def guarded (E : Env) (ops rest : List Oper) (d : Option Nat) (o : Op) (b : Bool) (st : St) (g : Nat) : AV → Option St
 | .d .bool x => if x = b then (exOp E ⟨d, o, 0, "", #[], none⟩ (st.put (some g) (.d .bool b))).bind (runOps E ops rest) else runOps E ops rest ((st.put (some g) (.d .bool (!b))).put d .skip)
 | .skip => runOps E ops rest (st.put d .skip)
 | _ => none
def guardAt (E : Env) (ops rest : List Oper) (d : Option Nat) (o : Op) (b : Bool) (st : St) (g : Nat) : Option St := guarded E ops rest d o b st g (st.get g)
theorem guardAt_eq (d : Option Nat) (o : Op) (b : Bool) (g : Nat) : guardAt E ops rest d o b ⟨s, h⟩ g = guarded E ops rest d o b ⟨s, h⟩ g (s.get g) := rfl
theorem runOps_guard (d : Option Nat) (o : Op) (ty : Nat) (p : String) (af : Array Edge) (j : Nat) (b : Bool) : runOps E ops (⟨d, o, ty, p, af, some (j, b)⟩ :: rest) st = (guardSlot ops j).bind (guardAt E ops rest d o b st) := by
 unfold runOps
 congr 1
theorem guarded_bool (d : Option Nat) (o : Op) (b : Bool) (g : Nat) (x : Bool) : guarded E ops rest d o b ⟨s, h⟩ g (.d .bool x) = if x = b then (exOp E ⟨d, o, 0, "", #[], none⟩ ⟨s.set g (.d .bool b), h⟩).bind (runOps E ops rest) else runOps E ops rest (St.put ⟨s.set g (.d .bool (!b)), h⟩ d .skip) := rfl
theorem guarded_skip (d : Option Nat) (o : Op) (b : Bool) (g : Nat) : guarded E ops rest d o b ⟨s, h⟩ g .skip = runOps E ops rest (St.put ⟨s, h⟩ d .skip) := rfl
theorem st_get (g : Nat) : St.get ⟨s, h⟩ g = s.get g := rfl
theorem gslot_zero (d : Option Nat) (o : Op) (ty : Nat) (p : String) (af : Array Edge) (gu : Option (Nat × Bool)) : guardSlot (⟨d, o, ty, p, af, gu⟩ :: ops) 0 = d := rfl
theorem gslot_succ (o : Oper) (n : Nat) : guardSlot (o :: ops) (n + 1) = guardSlot ops n := rfl

section
variable {d : Option Nat}
theorem ex_move (x : Operand) : exOp E ⟨d, .move x, 0, "", #[], none⟩ ⟨s, h⟩ = some (St.put ⟨s, h⟩ d (eval ⟨s, h⟩ x)) := rfl
theorem ex_assign (x : Operand) : exOp E ⟨d, .assign x, 0, "", #[], none⟩ ⟨s, h⟩ = some (St.put ⟨s, h⟩ d (eval ⟨s, h⟩ x)) := rfl
def pickOf (st : St) (x y : Operand) : AV → Option AV
 | .d .bool b => some (if b = true then eval st x else eval st y)
 | _ => none
theorem ex_pick (c x y : Operand) : exOp E ⟨d, .pick c x y, 0, "", #[], none⟩ ⟨s, h⟩ = (pickOf ⟨s, h⟩ x y (eval ⟨s, h⟩ c)).map (St.put ⟨s, h⟩ d) := by
 show Option.map _ (exVal E ⟨s, h⟩ (.pick c x y)) = _
 congr 1
theorem pickOf_bool (x y : Operand) (b : Bool) : pickOf ⟨s, h⟩ x y (.d .bool b) = some (if b = true then eval ⟨s, h⟩ x else eval ⟨s, h⟩ y) := rfl
theorem ex_build (T : Nat) (ps : Array (Nat × Operand)) : exOp E ⟨d, .build T ps, 0, "", #[], none⟩ ⟨s, h⟩ = (build E T (ps.toList.map fun p => (p.1, eval ⟨s, h⟩ p.2))).map (St.put ⟨s, h⟩ d) := rfl
theorem ex_load (T : Nat) (p : Operand) : exOp E ⟨d, .load T p, 0, "", #[], none⟩ ⟨s, h⟩ = (loadAt E h T (eval ⟨s, h⟩ p)).map (St.put ⟨s, h⟩ d) := rfl
def nilOf : AV → Option AV
 | .rp vs => some (.rp vs)
 | .op i off => some (.op i off)
 | .el p j off => some (.el p j off)
 | _ => none
theorem ex_nil (x : Operand) : exOp E ⟨d, .nilCheck x, 0, "", #[], none⟩ ⟨s, h⟩ = (nilOf (eval ⟨s, h⟩ x)).map (St.put ⟨s, h⟩ d) := by
 show Option.map _ (exVal E ⟨s, h⟩ (.nilCheck x)) = _
 congr 1
theorem nilOf_rp (vs : List AV) : nilOf (.rp vs) = some (.rp vs) := rfl
theorem nilOf_op (i off : Nat) : nilOf (.op i off) = some (.op i off) := rfl
theorem nilOf_el (p : Pl) (j off : Nat) : nilOf (.el p j off) = some (.el p j off) := rfl
theorem ex_bin (op : BinOp) (T : Nat) (x y : Operand) (Y : Nat) : exOp E ⟨d, .binOp op T x y Y, 0, "", #[], none⟩ ⟨s, h⟩ = (binOpH E h op T (eval ⟨s, h⟩ x) (eval ⟨s, h⟩ y)).map (St.put ⟨s, h⟩ d) := rfl
theorem ex_un (op : UnOp) (T : Nat) (x : Operand) : exOp E ⟨d, .unOp op T x, 0, "", #[], none⟩ ⟨s, h⟩ = (unOp op (eval ⟨s, h⟩ x)).map (St.put ⟨s, h⟩ d) := rfl
theorem ex_conv (S T : Nat) (x : Operand) : exOp E ⟨d, .convert S T x, 0, "", #[], none⟩ ⟨s, h⟩ = (convertT E h S T (eval ⟨s, h⟩ x)).map (St.put ⟨s, h⟩ d) := rfl
theorem ex_fn (f : Nat) (caps : Array Operand) : exOp E ⟨d, .makeFunc (.func f) #[] caps, 0, "", #[], none⟩ ⟨s, h⟩ = some (St.put ⟨s, h⟩ d (.fn f (caps.toList.map (eval ⟨s, h⟩)))) := rfl
def intOf : AV → Option Int
 | .d (.int _) n => some n
 | _ => none
theorem intOf_int (k : IntKind) (n : Int) : intOf (.d (.int k) n) = some n := rfl
theorem opt_none : optInt ⟨s, h⟩ none = some none := rfl
theorem opt_some (x : Operand) : optInt ⟨s, h⟩ (some x) = (intOf (eval ⟨s, h⟩ x)).map some := by
 simp only [optInt, intOf]
 cases eval ⟨s, h⟩ x with
 | d t x => cases t <;> rfl
 | _ => rfl
theorem ex_fa (T : Nat) (x : Operand) (j : Nat) : exOp E ⟨d, .fieldAddr T x j, 0, "", #[], none⟩ ⟨s, h⟩ = (fieldAddr E T (eval ⟨s, h⟩ x) j).map (St.put ⟨s, h⟩ d) := rfl
theorem ex_field (T : Nat) (x : Operand) (j : Nat) : exOp E ⟨d, .field T x j, 0, "", #[], none⟩ ⟨s, h⟩ = (field E T (eval ⟨s, h⟩ x) j).map (St.put ⟨s, h⟩ d) := rfl
theorem ex_ia (T : Nat) (x i : Operand) : exOp E ⟨d, .indexAddr T x i, 0, "", #[], none⟩ ⟨s, h⟩ = ((intOf (eval ⟨s, h⟩ i)).bind fun n => indexAddr E h T (eval ⟨s, h⟩ x) n).map (St.put ⟨s, h⟩ d) := by
 show Option.map _ (exVal E ⟨s, h⟩ (.indexAddr T x i)) = _
 congr 1
 simp only [exVal, intOf]
 cases eval ⟨s, h⟩ i with
 | d t x => cases t <;> rfl
 | _ => rfl
def extractOf (j : Nat) : AV → Option AV
 | .tuple vs => vs[j]?
 | _ => none
theorem extractOf_tuple (j : Nat) (vs : List AV) : extractOf j (.tuple vs) = vs[j]? := rfl
theorem ex_extract (x : Operand) (j : Nat) : exOp E ⟨d, .extract x j, 0, "", #[], none⟩ ⟨s, h⟩ = (extractOf j (eval ⟨s, h⟩ x)).map (St.put ⟨s, h⟩ d) := by
 show Option.map _ (exVal E ⟨s, h⟩ (.extract x j)) = _
 congr 1
theorem ex_len (x : Operand) (T : Nat) : exOp E ⟨d, .call ⟨.builtin .len, #[x], #[T]⟩, 0, "", #[], none⟩ ⟨s, h⟩ = (lenT E T h (eval ⟨s, h⟩ x)).map fun n => St.put ⟨s, h⟩ d (.d (.int .i64) n) := by
 show Option.map (St.put ⟨s, h⟩ d) ((lenT E T h (eval ⟨s, h⟩ x)).map fun n => AV.d (.int .i64) n) = _
 rw [Option.map_map]; rfl

theorem ex_min (x y : Operand) (ts : Array Nat) : exOp E ⟨d, .call ⟨.builtin .min, #[x, y], ts⟩, 0, "", #[], none⟩ ⟨s, h⟩ = (extreme .lss (eval ⟨s, h⟩ x) (eval ⟨s, h⟩ y)).map (St.put ⟨s, h⟩ d) := rfl
theorem extreme_int (k : IntKind) (m n : Int) : extreme .lss (.d (.int k) m) (.d (.int k) n) = some (.d (.int k) (min m n)) := by simp [extreme]
theorem newId_some (t : Nat) : newId (some t) = 64 * (t % 10000) := rfl
theorem newId_none : newId none = 639936 := rfl
def put2 (d : Option Nat) (r : AV × St) : St := r.2.put d r.1
theorem put2_mk (v : AV) : put2 d (v, ⟨s, h⟩) = St.put ⟨s, h⟩ d v := rfl
def boxOf (id : Nat) (st : St) (ti : TI) (v : AV) : Option (AV × St) := if v.isUndef = false ∧ v.cells.length = ti.size then some (.op id 0, st.alloc id (.box v.cells)) else none
def boxVia (id : Nat) (st : St) (v : AV) (ti : TI) : Option (AV × St) := boxOf id st ti v
theorem boxVia_eq (id : Nat) (ti : TI) (v : AV) : boxVia id ⟨s, h⟩ v ti = boxOf id ⟨s, h⟩ ti v := rfl
theorem ex_box (T : Nat) (x : Operand) : exOp E ⟨d, .box T x, 0, "", #[], none⟩ ⟨s, h⟩ = ((E.tab T).bind (boxVia (newId d) ⟨s, h⟩ (eval ⟨s, h⟩ x))).map (put2 d) := rfl
theorem boxOf_eq (id : Nat) (ti : TI) (v : AV) : boxOf id ⟨s, h⟩ ti v = if v.isUndef = false ∧ v.cells.length = ti.size then some (.op id 0, St.alloc ⟨s, h⟩ id (.box v.cells)) else none := rfl
def allocWith (E : Env) (T : Nat) (ti : TI) (id : Nat) (st : St) (z : List AV) : Option (AV × St) := some (.op id 0, st.alloc id (varObj E.tab T ti z))
theorem allocWith_eq (T : Nat) (ti : TI) (id : Nat) (z : List AV) : allocWith E T ti id ⟨s, h⟩ z = some (.op id 0, St.alloc ⟨s, h⟩ id (varOf T z (bldOf E.tab T ti))) := rfl
def allocVia (E : Env) (T id : Nat) (st : St) (ti : TI) : Option (AV × St) := (zeros E.tab 8 T).bind (allocWith E T ti id st)
theorem allocVia_eq (T id : Nat) (ti : TI) : allocVia E T id ⟨s, h⟩ ti = (zeros E.tab 8 T).bind (allocWith E T ti id ⟨s, h⟩) := rfl
theorem ex_alloc (T : Nat) : exOp E ⟨d, .alloc T, 0, "", #[], none⟩ ⟨s, h⟩ = ((E.tab T).bind (allocVia E T (newId d) ⟨s, h⟩)).map (put2 d) := rfl
theorem ex_bs (T len : Nat) (ps : Array (Nat × Operand)) : exOp E ⟨d, .buildSlice T len ps, 0, "", #[], none⟩ ⟨s, h⟩ = (buildSlice E ⟨s, h⟩ (newId d) T len (ps.toList.map fun p => (p.1, eval ⟨s, h⟩ p.2))).map (put2 d) := rfl
theorem ex_store (T : Nat) (p x : Operand) : exOp E ⟨d, .store T p x, 0, "", #[], none⟩ ⟨s, h⟩ = (storeAt E ⟨s, h⟩ T (eval ⟨s, h⟩ p) (eval ⟨s, h⟩ x)).map fun s => s.put d .undef := by
 show Option.map _ ((storeAt E ⟨s, h⟩ T (eval ⟨s, h⟩ p) (eval ⟨s, h⟩ x)).map fun s => (AV.undef, s)) = _
 rw [Option.map_map]; rfl
theorem ex_ms (T : Nat) (n c : Operand) : exOp E ⟨d, .makeSlice T n c, 0, "", #[], none⟩ ⟨s, h⟩ = ((intOf (eval ⟨s, h⟩ n)).bind fun a => (intOf (eval ⟨s, h⟩ c)).bind fun b => makeSlice E ⟨s, h⟩ (newId d) T a b).map (put2 d) := by
 show Option.map _ (exWrite E ⟨s, h⟩ (newId d) (.makeSlice T n c)) = _
 congr 1
 simp only [exWrite, intOf]
 cases eval ⟨s, h⟩ n with
 | d t x =>
  cases t with
  | int k =>
   cases eval ⟨s, h⟩ c with
   | d t' x' => cases t' <;> rfl
   | _ => rfl
  | _ => rfl
 | _ => rfl
theorem ex_append (x y : Operand) (T T2 : Nat) : exOp E ⟨d, .call ⟨.builtin .append, #[x, y], #[T, T2]⟩, 0, "", #[], none⟩ ⟨s, h⟩ = (append E ⟨s, h⟩ (newId d) T T2 (eval ⟨s, h⟩ x) (eval ⟨s, h⟩ y)).map (put2 d) := rfl
theorem ex_clear (x : Operand) (T : Nat) : exOp E ⟨d, .call ⟨.builtin .clear, #[x], #[T]⟩, 0, "", #[], none⟩ ⟨s, h⟩ = (clear E ⟨s, h⟩ T (eval ⟨s, h⟩ x)).map (put2 d) := rfl
def callVia (E : Env) (st : St) (id : Nat) (vs : List AV) : AV → Option (AV × St)
 | .fn g caps => callG E st id g (vs ++ caps)
 | _ => none
theorem ex_call (f : Operand) (xs : Array Operand) (ts : Array Nat) : exOp E ⟨d, .call ⟨.value f, xs, ts⟩, 0, "", #[], none⟩ ⟨s, h⟩ = (callVia E ⟨s, h⟩ (newId d) (xs.toList.map (eval ⟨s, h⟩)) (eval ⟨s, h⟩ f)).map (put2 d) := by
 show Option.map _ (exWrite E ⟨s, h⟩ (newId d) (.call ⟨.value f, xs, ts⟩)) = _
 congr 1
theorem callVia_fn (id : Nat) (vs : List AV) (g : Nat) (caps : List AV) : callVia E ⟨s, h⟩ id vs (.fn g caps) = callG E ⟨s, h⟩ id g (vs ++ caps) := rfl
end

theorem prun_skip : prun E l A k .skip st = some (.normal, st) := rfl
def dropsVia (s : St) : Option (List Nat) → St
 | none => s
 | some ts => ⟨dropAll ts s.tmps, s.heap⟩
def plainsVia (s : St) : Option (List Nat) → St
 | none => s
 | some ts => plains ts s
def homesVia (s : St) : Option (List Nat) → St
 | none => s
 | some ts => homes ts s
def subsVia (s : St) : Option (List Nat) → St
 | none => s
 | some ts => subs ts s
def softsVia (s : St) : Option (List (Nat × Nat × Ty)) → St
 | none => s
 | some ts => softs ts s
def leaveR (A : Ann) (id : Nat) (s : St) : Ex × St := (.normal, softsVia (subsVia (homesVia (plainsVia (dropsVia s (lookT A.drops id)) (lookT A.plain id)) (lookT A.homes id)) (lookT A.subs id)) (lookT A.soft id))
theorem leave_eq (id : Nat) : leaveR A id ⟨s, h⟩ = (.normal, softsVia (subsVia (homesVia (plainsVia (dropsVia ⟨s, h⟩ (lookT A.drops id)) (lookT A.plain id)) (lookT A.homes id)) (lookT A.subs id)) (lookT A.soft id)) := rfl
theorem softsVia_none : softsVia st none = st := rfl
theorem softsVia_some (ts : List (Nat × Nat × Ty)) : softsVia st (some ts) = softs ts st := rfl
theorem softs_nil (st : St) : softs [] st = st := rfl
theorem softs_cons (i c : Nat) (t : Ty) (l : List (Nat × Nat × Ty)) : softs ((i, c, t) :: l) ⟨s, h⟩ = softs l ⟨s.set i (softV c t (s.get i)), h⟩ := rfl
theorem softV_rp (c : Nat) (t : Ty) (vs : List AV) : softV c t (.rp vs) = .rp (softAt t c vs) := rfl
theorem softV_agg (c : Nat) (t : Ty) (vs : List AV) : softV c t (.agg vs) = .agg (softAt t c vs) := rfl
theorem softV_nilS (t : Ty) : softV 0 t .nilS = .d (.slice t) [] := rfl
theorem softV_empS (t : Ty) : softV 0 t .empS = .d (.slice t) [] := rfl
theorem softV_d (t t' : Ty) (x : t'.Den) : softV 0 t (.d t' x) = .d t' x := rfl
theorem softV_os (t : Ty) (p : Pl) : softV 0 t (.os p) = .os p := rfl
theorem softAt_zero (t : Ty) (v : AV) (vs : List AV) : softAt t 0 (v :: vs) = softA t v :: vs := rfl
theorem softAt_succ (t : Ty) (n : Nat) (v : AV) (vs : List AV) : softAt t (n + 1) (v :: vs) = v :: softAt t n vs := rfl
theorem softA_nilS (t : Ty) : softA t .nilS = .d (.slice t) [] := rfl
theorem softA_empS (t : Ty) : softA t .empS = .d (.slice t) [] := rfl
theorem softA_d (t t' : Ty) (x : t'.Den) : softA t (.d t' x) = .d t' x := rfl
theorem softA_os (t : Ty) (p : Pl) : softA t (.os p) = .os p := rfl
theorem dropsVia_none : dropsVia st none = st := rfl
theorem dropsVia_some (ts : List Nat) : dropsVia ⟨s, h⟩ (some ts) = ⟨dropAll ts s, h⟩ := rfl
theorem plainsVia_none : plainsVia st none = st := rfl
theorem plainsVia_some (ts : List Nat) : plainsVia st (some ts) = plains ts st := rfl
theorem homesVia_none : homesVia st none = st := rfl
theorem homesVia_some (ts : List Nat) : homesVia st (some ts) = homes ts st := rfl
theorem subsVia_none : subsVia st none = st := rfl
theorem subsVia_some (ts : List Nat) : subsVia st (some ts) = subs ts st := rfl
theorem subs_nil (st : St) : subs [] st = st := rfl
theorem subs_cons (t : Nat) (ts : List Nat) : subs (t :: ts) ⟨s, h⟩ = subs ts (subV ⟨s, h⟩ t (s.get t)) := rfl
def subArr (st : St) (t : Nat) (p : Pl) : Option AV → St
 | some (.d (.slice _) xs) => st.set t (.sub p 0 (List.length xs))
 | _ => st
theorem subV_os (t : Nat) (p : Pl) : subV ⟨s, h⟩ t (.os p) = subArr ⟨s, h⟩ t p (h.arrAt p) := by
 simp only [subV, subArr]
 cases h.arrAt p with
 | none => rfl
 | some v => cases v <;> first | rfl | (rename_i t x; cases t <;> rfl)
theorem subArr_some (t : Nat) (p : Pl) (ty : Ty) (xs : List ty.Den) : subArr ⟨s, h⟩ t p (some (.d (.slice ty) xs)) = ⟨s.set t (.sub p 0 (List.length xs)), h⟩ := rfl
theorem subV_sub (t : Nat) (p : Pl) (a n : Nat) : subV ⟨s, h⟩ t (.sub p a n) = ⟨s, h⟩ := rfl
theorem subV_nilS (t : Nat) : subV ⟨s, h⟩ t .nilS = ⟨s, h⟩ := rfl
theorem subV_d (t : Nat) (ty : Ty) (x : ty.Den) : subV ⟨s, h⟩ t (.d ty x) = ⟨s, h⟩ := rfl
theorem plains_nil (st : St) : plains [] st = st := rfl
theorem homes_nil (st : St) : homes [] st = st := rfl
theorem homes_cons (t : Nat) (ts : List Nat) : homes (t :: ts) ⟨s, h⟩ = homes ts (homeT ⟨s, h⟩ t) := rfl
theorem homeT_eq (t : Nat) : homeT ⟨s, h⟩ t = if t < 10000 then homeV ⟨s, h⟩ (64 * t) (s.get t) else homeCell ⟨s, h⟩ (64 * (t % 10000) + t / 10000) (t / 10000 - 1) (s.get (t % 10000)) := rfl
theorem homeCell_op (home c i off : Nat) : homeCell ⟨s, h⟩ home c (.op i off) = homeBox ⟨s, h⟩ home c (h.get i) := rfl
theorem homeBox_box (home c : Nat) (vs : List AV) : homeBox ⟨s, h⟩ home c (some (.box vs)) = homeAt ⟨s, h⟩ home (getL vs c) := rfl
theorem homeAt_os (home i : Nat) : homeAt ⟨s, h⟩ home (some (.os (.t i))) = homeO ⟨s, h⟩ i home (h.get i) := rfl
theorem homeAt_sub (home i a n : Nat) : homeAt ⟨s, h⟩ home (some (.sub (.t i) a n)) = homeO ⟨s, h⟩ i home (h.get i) := rfl
theorem homeAt_nilS (home : Nat) : homeAt ⟨s, h⟩ home (some .nilS) = ⟨s, h⟩ := rfl
theorem homeAt_empS (home : Nat) : homeAt ⟨s, h⟩ home (some .empS) = ⟨s, h⟩ := rfl
theorem homeAt_d (home : Nat) (t : Ty) (x : t.Den) : homeAt ⟨s, h⟩ home (some (.d t x)) = ⟨s, h⟩ := rfl
theorem homeV_os (home i : Nat) : homeV ⟨s, h⟩ home (.os (.t i)) = homeO ⟨s, h⟩ i home (h.get i) := rfl
theorem homeV_op (home i off : Nat) : homeV ⟨s, h⟩ home (.op i off) = homeO ⟨s, h⟩ i home (h.get i) := rfl
theorem homeV_mp (home i : Nat) : homeV ⟨s, h⟩ home (.mp i) = homeO ⟨s, h⟩ i home (h.get i) := rfl
theorem homeV_nilS (home : Nat) : homeV ⟨s, h⟩ home .nilS = ⟨s, h⟩ := rfl
theorem homeV_empS (home : Nat) : homeV ⟨s, h⟩ home .empS = ⟨s, h⟩ := rfl
theorem homeV_d (home : Nat) (t : Ty) (x : t.Den) : homeV ⟨s, h⟩ home (.d t x) = ⟨s, h⟩ := rfl
theorem homeO_some (id home : Nat) (o : Obj) : homeO ⟨s, h⟩ id home (some o) = if id ≠ home ∧ id < lentFrom ∧ home < lentFrom then ⟨Slots.mapR (homeF id home) s, (Heap.sans id home (Heap.mapR (homeF id home) h)).put home (o.mapR (homeF id home))⟩ else ⟨s, h⟩ := rfl
theorem sans_nil (a b : Nat) : Heap.sans a b [] = [] := rfl
theorem sans_cons (a b i : Nat) (o : Obj) : Heap.sans a b ((i, o) :: h) = if i = a ∨ i = b then Heap.sans a b h else (i, o) :: Heap.sans a b h := rfl
theorem homeF_os (id home i : Nat) : homeF id home (.os (.t i)) = if i = home then .undef else .os (.t (if i = id then home else i)) := rfl
theorem homeF_sub (id home i a n : Nat) : homeF id home (.sub (.t i) a n) = if i = home then .undef else .sub (.t (if i = id then home else i)) a n := rfl
theorem homeF_el (id home i a n : Nat) : homeF id home (.el (.t i) a n) = if i = home then .undef else .el (.t (if i = id then home else i)) a n := rfl
theorem homeF_op (id home i off : Nat) : homeF id home (.op i off) = if i = home then .undef else .op (if i = id then home else i) off := rfl
theorem homeF_mp (id home i : Nat) : homeF id home (.mp i) = if i = home then .undef else .mp (if i = id then home else i) := rfl
theorem plains_cons (t : Nat) (ts : List Nat) : plains (t :: ts) ⟨s, h⟩ = plains ts (plainA s h (s.get t)) := rfl
theorem plainA_op (id : Nat) : plainA s h (.op id 0) = plainO s h id (h.get id) := rfl
theorem plainA_agg (vs : List AV) : plainA s h (.agg vs) = plainG (freezes 8 ⟨s, h⟩ vs) ⟨s, h⟩ := rfl
theorem plainA_os (p : Pl) : plainA s h (.os p) = plainG (freezes 8 ⟨s, h⟩ [.os p]) ⟨s, h⟩ := rfl
theorem plainA_sub (p : Pl) (a n : Nat) : plainA s h (.sub p a n) = plainG (freezes 8 ⟨s, h⟩ [.sub p a n]) ⟨s, h⟩ := rfl
theorem plainA_nilS : plainA s h .nilS = ⟨s, h⟩ := rfl
theorem plainA_empS : plainA s h .empS = ⟨s, h⟩ := rfl
theorem plainA_d (t : Ty) (x : t.Den) : plainA s h (.d t x) = ⟨s, h⟩ := rfl
theorem plainO_box (id : Nat) (vs : List AV) : plainO s h id (some (.box vs)) = plainF id (freezes 8 ⟨s, h⟩ vs) ⟨s, h⟩ := rfl
theorem plainF_some (id : Nat) (vs : List AV) (s' : Slots) (h' : Heap) (st : St) : plainF id (some (vs, ⟨s', h'⟩)) st = plainB s' h' id (h'.get id) := rfl
theorem plainG_some (vs : List AV) (st' st : St) : plainG (some (vs, st')) st = st' := rfl
theorem plainB_box (id : Nat) (vs : List AV) : plainB s h id (some (.box vs)) = if AV.owneds vs = false then ⟨Slots.mapR (boxedF id vs) s, (Heap.mapR (boxedF id vs) h).put id .dead⟩ else ⟨s, h⟩ := rfl
theorem boxedF_os (id : Nat) (vs : List AV) (p : Pl) : boxedF id vs (.os p) = if p.id = id then .undef else .os p := rfl
theorem boxedF_sub (id : Nat) (vs : List AV) (p : Pl) (a n : Nat) : boxedF id vs (.sub p a n) = if p.id = id then .undef else .sub p a n := rfl
theorem boxedF_el (id : Nat) (vs : List AV) (p : Pl) (a n : Nat) : boxedF id vs (.el p a n) = if p.id = id then .undef else .el p a n := rfl
theorem boxedF_op (id : Nat) (vs : List AV) (i off : Nat) : boxedF id vs (.op i off) = if i = id then .rp (vs.drop off) else .op i off := rfl
theorem boxedF_mp (id : Nat) (vs : List AV) (i : Nat) : boxedF id vs (.mp i) = if i = id then .undef else .mp i := rfl
theorem drop_nil : dropAll [] s = s := rfl
theorem drop_cons (t : Nat) (ts : List Nat) : dropAll (t :: ts) s = dropAll ts (s.drop t) := rfl
def beforeVia (s : Slots) (h : Heap) : Option (List Nat) → St
 | some ts => ⟨dropAll ts s, h⟩
 | none => ⟨s, h⟩
theorem beforeVia_some (ts : List Nat) : beforeVia s h (some ts) = ⟨dropAll ts s, h⟩ := rfl
theorem beforeVia_none : beforeVia s h none = ⟨s, h⟩ := rfl
theorem before_text (id : Nat) : A.before id false ⟨s, h⟩ = ⟨s, h⟩ := rfl
theorem before_draw (id : Nat) : A.before id true ⟨s, h⟩ = beforeVia s h (lookT A.early id) := by
 simp only [Ann.before, if_true]
 cases lookT A.early id <;> rfl
theorem prun_region (id : Nat) (ops : Array Oper) (dr : Bool) : prun E l A k (.region id ops dr) st = (forksOf E ops.toList (A.before id dr st) (otherOrders A id ops dr) (runOps E ops.toList (orderOf A id ops dr) (A.before id dr st))).map (leaveR A id) := by
 rw [prun]
 congr 1
 funext s
 simp only [leaveR]
 cases lookT A.drops id <;> cases lookT A.plain id <;> cases lookT A.homes id <;> cases lookT A.subs id <;> cases lookT A.soft id <;> rfl
noncomputable def forkWith (E : Env) (ops : List Oper) (st : St) (os : List Oper) (s1 : St) : Option St := forkTo s1 (runOps E ops os st)
theorem forksOf_nil (ops : List Oper) (r : Option St) : forksOf E ops st [] r = r := rfl
theorem forksOf_cons (ops os : List Oper) (L : List (List Oper)) (r : Option St) : forksOf E ops st (os :: L) r = forksOf E ops st L (r.bind (forkWith E ops st os)) := rfl
def orderAt (ops : Array Oper) (l : List Nat) : List Oper := l.filterMap (ops.toList[·]?)
def othersVia (ops : Array Oper) : Option (List (List Nat)) → List (List Oper)
 | some L => L.map (orderAt ops)
 | none => []
theorem others_text (id : Nat) (ops : Array Oper) : otherOrders A id ops false = [] := rfl
theorem others_draw (id : Nat) (ops : Array Oper) : otherOrders A id ops true = othersVia ops (lookT A.forks id) := by
 simp only [otherOrders, if_true, othersVia]
 cases lookT A.forks id <;> rfl
theorem othersVia_none (ops : Array Oper) : othersVia ops none = [] := rfl
theorem othersVia_nil (ops : Array Oper) : othersVia ops (some []) = [] := rfl
theorem othersVia_cons (ops : Array Oper) (l : List Nat) (L : List (List Nat)) : othersVia ops (some (l :: L)) = orderAt ops l :: othersVia ops (some L) := rfl
theorem orderAt_eq (ops : Array Oper) (l : List Nat) : orderAt ops l = l.filterMap (ops.toList[·]?) := rfl
theorem forkWith_eq (ops os : List Oper) (s1 : Slots) (h1 : Heap) : forkWith E ops st os ⟨s1, h1⟩ = forkTo ⟨s1, h1⟩ (runOps E ops os st) := rfl
def keysOf : Heap → List Nat
 | [] => []
 | x :: h => x.1 :: keysOf h
theorem keysOf_eq : ∀ h : Heap, keysOf h = h.map (·.1)
 | [] => rfl
 | x :: h => by rw [keysOf, keysOf_eq h]; rfl
theorem keysOf_nil : keysOf [] = [] := rfl
theorem keysOf_cons (i : Nat) (o : Obj) : keysOf ((i, o) :: h) = i :: keysOf h := rfl
theorem sameL_nil (h1 h2 : Heap) : sameL h1 h2 [] = True := rfl
theorem sameL_cons (h1 h2 : Heap) (i : Nat) (l : List Nat) : sameL h1 h2 (i :: l) = (h1.get i = h2.get i ∧ sameL h1 h2 l) := rfl
open Classical in
theorem forkTo_mk (s1 s2 : Slots) (h1 h2 : Heap) : forkTo ⟨s1, h1⟩ (some ⟨s2, h2⟩) = if agree ⟨s1, h1⟩ ⟨s2, h2⟩ then some ⟨s1, h1⟩ else none := rfl
theorem agree_mk (s1 s2 : Slots) (h1 h2 : Heap) : agree ⟨s1, h1⟩ ⟨s2, h2⟩ = (s1 = s2 ∧ sameL h1 h2 (keysOf h1 ++ keysOf h2)) := by
 simp only [agree, keysOf_eq]
theorem forkTo_none (s1 : St) : forkTo s1 none = none := rfl
theorem order_text (id : Nat) (ops : Array Oper) : orderOf A id ops false = ops.toList := rfl
def orderVia (ops : Array Oper) : Option (List Nat) → List Oper
 | some l => l.filterMap (ops.toList[·]?)
 | none => ops.toList
theorem order_draw (id : Nat) (ops : Array Oper) : orderOf A id ops true = orderVia ops (lookT A.ord id) := rfl
theorem orderVia_some (ops : Array Oper) (l : List Nat) : orderVia ops (some l) = l.filterMap (ops.toList[·]?) := rfl
theorem orderVia_none (ops : Array Oper) : orderVia ops none = ops.toList := rfl
theorem look_nil {α : Type} (j : Nat) : lookT ([] : List (Nat × α)) j = none := rfl
theorem look_cons {α : Type} (i : Nat) (x : α) (l : List (Nat × α)) (j : Nat) : lookT ((i, x) :: l) j = if i = j then some x else lookT l j := rfl
noncomputable def andThen (E : Env) (l : LoopF) (A : Ann) (k : Nat) (b : Code) (r : Ex × St) : Option (Ex × St) := match r.1 with
 | .normal => prun E l A k b r.2
 | _ => some r
theorem andThen_normal (b : Code) : andThen E l A k b (.normal, st) = prun E l A k b st := rfl
theorem andThen_exit (b : Code) (i : Nat) : andThen E l A k b (.exit i, st) = some (.exit i, st) := rfl
theorem andThen_ret (b : Code) : andThen E l A k b (.ret, st) = some (.ret, st) := rfl
theorem prun_seq (a b : Code) : prun E l A k (.seq a b) st = (prun E l A k a st).bind (andThen E l A (k + nLoops a) b) := rfl
noncomputable def condOf (E : Env) (l : LoopF) (A : Ann) (k : Nat) (a b : Code) (st : St) : AV → Option (Ex × St)
 | .d .bool x => if x = true then prun E l A k a st else prun E l A (k + nLoops a) b st
 | _ => none
theorem prun_cond (t : Nat) (a b : Code) : prun E l A k (.cond (.tmp t) a b) ⟨s, h⟩ = condOf E l A k a b ⟨s.drop t, h⟩ (s.get t) := by
 simp only [prun, condOf, eval, St.get]
 cases s.get t with
 | d ty x => cases ty <;> rfl
 | _ => rfl
theorem prun_condc (v : Value) (a b : Code) : prun E l A k (.cond (.const v) a b) ⟨s, h⟩ = condOf E l A k a b ⟨s, h⟩ (ofConst v) := by
 simp only [prun, condOf, eval]
 cases ofConst v with
 | d ty x => cases ty <;> rfl
 | _ => rfl
theorem condOf_bool (a b : Code) (x : Bool) : condOf E l A k a b st (.d .bool x) = if x = true then prun E l A k a st else prun E l A (k + nLoops a) b st := rfl
def unblock (id : Nat) (r : Ex × St) : Ex × St := match r.1 with
 | .exit i => if i = id then (.normal, r.2) else r
 | _ => r
theorem unblock_normal (id : Nat) : unblock id (.normal, st) = (.normal, st) := rfl
theorem unblock_ret (id : Nat) : unblock id (.ret, st) = (.ret, st) := rfl
theorem unblock_exit (id i : Nat) : unblock id (.exit i, st) = if i = id then (.normal, st) else (.exit i, st) := rfl
theorem prun_block (id : Nat) (c : Code) : prun E l A k (.block id c) st = (prun E l A k c st).map (unblock id) := rfl
theorem prun_loop (c : Code) : prun E l A k (.loop c) st = l k (A.enter k st) := rfl
theorem prun_exit (id : Nat) : prun E l A k (.exit id) st = some (.exit id, st) := rfl
theorem prun_ret : prun E l A k .ret st = some (.ret, st) := rfl
theorem gc_nil : St.gc ⟨s, []⟩ = ⟨s, []⟩ := rfl
theorem gc_cons (x : Nat × Obj) : St.gc ⟨s, x :: h⟩ = ⟨s, gc1 s (gc1 s (x :: h))⟩ := rfl
theorem nl_skip : nLoops .skip = 0 := rfl
theorem nl_region (id : Nat) (ops : Array Oper) (d : Bool) : nLoops (.region id ops d) = 0 := rfl
theorem nl_seq (a b : Code) : nLoops (.seq a b) = nLoops a + nLoops b := rfl
theorem nl_cond (c : Operand) (a b : Code) : nLoops (.cond c a b) = nLoops a + nLoops b := rfl
theorem nl_block (i : Nat) (c : Code) : nLoops (.block i c) = nLoops c := rfl
theorem nl_loop (c : Code) : nLoops (.loop c) = nLoops c + 1 := rfl
theorem nl_exit (i : Nat) : nLoops (.exit i) = 0 := rfl
theorem nl_ret : nLoops .ret = 0 := rfl
def enterVia (st : St) : Option (List NilAt) → St
 | some ns => (unnil ns st).gc
 | none => st.gc
theorem enter_eq : A.enter k ⟨s, h⟩ = enterVia ⟨s, h⟩ (lookT A.nils k) := by unfold Ann.enter enterVia; rfl
theorem enterVia_none : enterVia ⟨s, h⟩ none = St.gc ⟨s, h⟩ := rfl
def unnilSlot (t id : Nat) (ty : Ty) (st : St) : AV → St
 | .nilS => if id < lentFrom then (emptyArr id ty st).set t (.os (.t id)) else st
 | _ => st
theorem unnil1_slot (t id : Nat) (ty : Ty) : unnil1 (.slot t id ty) ⟨s, h⟩ = unnilSlot t id ty ⟨s, h⟩ (s.get t) := by
 simp only [unnil1, unnilSlot, St.get]
 cases s.get t <;> rfl
def unnilCell (t c id : Nat) (ty : Ty) (st : St) : AV → St
 | .agg vs => match getL vs c with
  | some .nilS => if id < lentFrom then (emptyArr id ty st).set t (.agg (setL c (.os (.t id)) (AV.mapRs (killF id) vs))) else st
  | _ => st
 | _ => st
theorem unnil1_cell (t c id : Nat) (ty : Ty) : unnil1 (.cell t c id ty) ⟨s, h⟩ = unnilCell t c id ty ⟨s, h⟩ (s.get t) := by
 simp only [unnil1, unnilCell, St.get]
 cases s.get t <;> rfl
def unnilBox (b c id : Nat) (ty : Ty) (st : St) : Option Obj → St
 | some (.box vs) => match getL vs c with
  | some .nilS => if id < lentFrom ∧ b ≠ id then ⟨(emptyArr id ty st).tmps, (emptyArr id ty st).heap.put b (.box (setL c (.os (.t id)) (AV.mapRs (killF id) vs)))⟩ else st
  | _ => st
 | _ => st
theorem unnil1_box (b c id : Nat) (ty : Ty) : unnil1 (.box b c id ty) ⟨s, h⟩ = unnilBox b c id ty ⟨s, h⟩ (h.get b) := by
 simp only [unnil1, unnilBox]
 cases h.get b with
 | none => rfl
 | some o => cases o <;> rfl
theorem st_set (t : Nat) (v : AV) : St.set ⟨s, h⟩ t v = ⟨s.set t v, h⟩ := rfl
theorem st_tmps : St.tmps ⟨s, h⟩ = s := rfl
theorem st_heap : St.heap ⟨s, h⟩ = h := rfl

def done (E : Env) (f : Func) (r : Ex × St) : Option (AV × Heap) := match r.1 with
 | .exit _ => none
 | _ => finish E f r.2
theorem done_normal (f : Func) : done E f (.normal, st) = finish E f st := rfl
theorem done_ret (f : Func) : done E f (.ret, st) = finish E f st := rfl
theorem call_eq (p : Prog) (f : Nat) (vs : List AV) (hp : Heap) (F : Func) (hf : p.fn f = some F) (b : Code) (hF : F.body = some b) (A : Ann) (hA : p.ann f = A) (hn : decide (vs.length ≤ F.ntmps) = true) : callOf p f vs hp = (prun (p.env (callOf p)) (loopOf p f) A 0 b ⟨bind0 0 vs, hp⟩).bind (done (p.env (callOf p)) F) := by
 rw [Call_unfold, hf, hA]
 simp only
 unfold runFn
 rw [if_pos (of_decide_eq_true hn), hF]; rfl
theorem given_eq (p : Prog) (f : Nat) (vs : List AV) (hp : Heap) (hf : p.fn f = none) : callOf p f vs hp = p.given f vs hp := by
 rw [Call_unfold, hf]
def again (A : Ann) (l : LoopF) (k : Nat) (r : Ex × St) : Option (Ex × St) := match r.1 with
 | .normal => l k (A.enter k r.2)
 | _ => some r
theorem again_normal : again A l k (.normal, st) = l k (A.enter k st) := rfl
theorem again_exit (i : Nat) : again A l k (.exit i, st) = some (.exit i, st) := rfl
theorem again_ret : again A l k (.ret, st) = some (.ret, st) := rfl
theorem loop_eq (p : Prog) (f k : Nat) (st : St) (F : Func) (hf : p.fn f = some F) (b : Code) (hF : F.body = some b) (A : Ann) (hA : p.ann f = A) (c : Code) (hc : loopIn b k = some c) : loopOf p f k st = (prun (p.env (callOf p)) (loopOf p f) A (k + 1) c st).bind (again A (loopOf p f) k) := by
 rw [Loop_unfold, hf, hA]
 simp only [runLoop, hF, Option.bind_some, hc]; rfl
def finish2 (h : Heap) (vs : List AV) : AV × Heap := leave (shrinks (subsOf vs) vs h)
theorem finish_eq (F : Func) (rs : List ResultVar) (hr : F.results.toList = rs) : finish E F ⟨s, h⟩ = (mapO (resultVar E ⟨s, h⟩) rs).map (finish2 h) := by
 subst hr; rfl
theorem finish2_eq (vs : List AV) : finish2 h vs = leave (shrinks (subsOf vs) vs h) := rfl
theorem leave_mk (vs : List AV) : leave (vs, h) = (tupleOf vs, (St.gc ⟨[(0, .tuple vs)], h⟩).heap) := rfl
theorem shrinks_nil (vs : List AV) : shrinks [] vs h = (vs, h) := rfl
theorem tupleOf_one (u : AV) : tupleOf [u] = u := rfl
theorem tupleOf_two (u v : AV) (us : List AV) : tupleOf (u :: v :: us) = .tuple (u :: v :: us) := rfl
theorem tupleOf_nil : tupleOf [] = .tuple [] := rfl
theorem rv_tmp (t : Nat) : resultVar E ⟨s, h⟩ (.tmp t) = some (s.get t) := rfl
theorem rv_cell (a T : Nat) : resultVar E ⟨s, h⟩ (.cell a T) = loadAt E h T (s.get a) := rfl
theorem mapO_nil {α β : Type} (f : α → Option β) : mapO f [] = some [] := rfl
def mapO2 {α β : Type} (f : α → Option β) (xs : List α) (y : β) : Option (List β) := (mapO f xs).map (List.cons y)
theorem mapO_cons {α β : Type} (f : α → Option β) (x : α) (xs : List α) : mapO f (x :: xs) = (f x).bind (mapO2 f xs) := rfl
theorem mapO2_eq {α β : Type} (f : α → Option β) (xs : List α) (y : β) : mapO2 f xs y = (mapO f xs).map (List.cons y) := rfl
theorem bind0_nil (i : Nat) : bind0 i [] = [] := rfl
theorem bind0_cons (i : Nat) (v : AV) (vs : List AV) : bind0 i (v :: vs) = (i, v) :: bind0 (i + 1) vs := rfl
theorem asList_self (t : Ty) (x : List t.Den) : asList t (.d (.slice t) x) = some x := by simp [asList, asDen_self]
end
end Go.Q

namespace Go.Q
set_option linter.unusedVariables false
set_option linter.unusedSimpArgs false
set_option linter.unusedSectionVars false
open Go
section
variable {E : Env} {s : Slots} {h : Heap} {k k' : IntKind} {a b : Int}
theorem bt_int (op : BinOp) (T : Nat) (y : AV) : binOpT E op T (.d (.int k) a) y = binOp op (.d (.int k) a) y := rfl
def boolVia (op : BinOp) (x : Bool) (y : AV) (ti : TI) : Option AV := match ti.desc with
 | .bool => binOp op (.d .bool x) y
 | _ => none
theorem bt_bool (op : BinOp) (T : Nat) (x : Bool) (y : AV) : binOpT E op T (.d .bool x) y = (E.tab T).bind (boolVia op x y) := rfl
theorem boolVia_bool (op : BinOp) (x : Bool) (y : AV) (n m : Nat) : boolVia op x y ⟨.bool, n, m⟩ = binOp op (.d .bool x) y := rfl
def aggTy (E : Env) (op : BinOp) (xs ys : List AV) (fs : List (Nat × Nat)) (t : Ty) : Option AV := if t.eqb = true then (eqFields E.tab xs ys fs).bind (boolOf op) else none
theorem aggTy_eq (op : BinOp) (xs ys : List AV) (fs : List (Nat × Nat)) (t : Ty) : aggTy E op xs ys fs t = if t.eqb = true then (eqFields E.tab xs ys fs).bind (boolOf op) else none := rfl
def aggVia (E : Env) (op : BinOp) (T : Nat) (xs : List AV) (y : AV) (ti : TI) : Option AV := (E.ty T).bind fun t => if t.eqb = true then match ti.desc, y with
  | .struct fs, .agg ys => (eqFields E.tab xs ys fs).bind (boolOf op)
  | _, _ => none
  else none
theorem bt_agg (op : BinOp) (T : Nat) (xs : List AV) (y : AV) : binOpT E op T (.agg xs) y = (E.tab T).bind (aggVia E op T xs y) := rfl
theorem aggVia_mk (op : BinOp) (T : Nat) (xs ys : List AV) (fs : List (Nat × Nat)) (n m : Nat) : aggVia E op T xs (.agg ys) ⟨.struct fs, n, m⟩ = (E.ty T).bind (aggTy E op xs ys fs) := rfl
def eqF3 (b r : Bool) : Bool := b && r
theorem eqF3_eq (b r : Bool) : eqF3 b r = (b && r) := rfl
def eqF2 (tab : Nat → Option TI) (xs ys : List AV) (fs : List (Nat × Nat)) (b : Bool) : Option Bool := (eqFields tab xs ys fs).map (eqF3 b)
theorem eqF2_eq (tab : Nat → Option TI) (xs ys : List AV) (fs : List (Nat × Nat)) (b : Bool) : eqF2 tab xs ys fs b = (eqFields tab xs ys fs).map (eqF3 b) := rfl
def eqF1 (tab : Nat → Option TI) (xs ys : List AV) (fs : List (Nat × Nat)) (o : Nat) (ti : TI) : Option Bool := (eqCell ti.desc xs[o]? ys[o]?).bind (eqF2 tab xs ys fs)
theorem eqF1_mk (tab : Nat → Option TI) (xs ys : List AV) (fs : List (Nat × Nat)) (o : Nat) (td : TD) (n m : Nat) : eqF1 tab xs ys fs o ⟨td, n, m⟩ = (eqCell td xs[o]? ys[o]?).bind (eqF2 tab xs ys fs) := rfl
theorem eqF_nil (tab : Nat → Option TI) (xs ys : List AV) : eqFields tab xs ys [] = some true := rfl
theorem eqF_cons (tab : Nat → Option TI) (xs ys : List AV) (fs : List (Nat × Nat)) (o T : Nat) : eqFields tab xs ys ((o, T) :: fs) = (tab T).bind (eqF1 tab xs ys fs o) := rfl
theorem eqC_int (k0 k : IntKind) (a b : Int) : eqCell (.int k0) (some (.d (.int k) a)) (some (.d (.int k) b)) = some (decide (a = b)) := by simp [eqCell]
theorem eqC_bool (a b : Bool) : eqCell .bool (some (.d .bool a)) (some (.d .bool b)) = some (a == b) := rfl
theorem eqC_str (a b : ByteArray) : eqCell .str (some (.d .str a)) (some (.d .str b)) = some (a.toList == b.toList) := rfl
def cmpVia (op : BinOp) (x y : AV) (ti : TI) : Option AV := (cmpNil ti.desc x y).bind (boolOf op)
theorem cmpVia_mk (op : BinOp) (x y : AV) (td : TD) (n m : Nat) : cmpVia op x y ⟨td, n, m⟩ = (cmpNil td x y).bind (boolOf op) := rfl
theorem bh_int (h : Heap) (op : BinOp) (T : Nat) (y : AV) : binOpH E h op T (.d (.int k) a) y = binOpT E op T (.d (.int k) a) y := rfl
theorem bh_bool (h : Heap) (op : BinOp) (T : Nat) (x : Bool) (y : AV) : binOpH E h op T (.d .bool x) y = binOpT E op T (.d .bool x) y := rfl
theorem bh_agg (h : Heap) (op : BinOp) (T : Nat) (xs : List AV) (y : AV) : binOpH E h op T (.agg xs) y = binOpT E op T (.agg xs) y := rfl
theorem bh_nilP (h : Heap) (op : BinOp) (T : Nat) (y : AV) : binOpH E h op T .nilP y = binOpT E op T .nilP y := rfl
theorem bh_op (h : Heap) (op : BinOp) (T : Nat) (i n : Nat) (y : AV) : binOpH E h op T (.op i n) y = binOpT E op T (.op i n) y := rfl
theorem bh_el (h : Heap) (op : BinOp) (T : Nat) (p : Pl) (i n : Nat) (y : AV) : binOpH E h op T (.el p i n) y = binOpT E op T (.el p i n) y := rfl
theorem bh_rp (h : Heap) (op : BinOp) (T : Nat) (vs : List AV) (y : AV) : binOpH E h op T (.rp vs) y = binOpT E op T (.rp vs) y := rfl
theorem bh_nilS (h : Heap) (op : BinOp) (T : Nat) (y : AV) : binOpH E h op T .nilS y = binOpT E op T .nilS y := rfl
theorem bh_sl (h : Heap) (op : BinOp) (T : Nat) (t : Ty) (xs : List t.Den) (y : AV) : binOpH E h op T (.d (.slice t) xs) y = binOpT E op T (.d (.slice t) xs) y := rfl
theorem bh_os (h : Heap) (op : BinOp) (T : Nat) (p : Pl) : binOpH E h op T (.os p) .nilS = (E.tab T).bind (osNil op h p) := rfl
def osArr (op : BinOp) : Option AV → Option AV
 | some (.d (.slice _) xs) => if List.length xs = 0 then none else boolOf op false
 | _ => none
theorem osNil_sl (h : Heap) (op : BinOp) (p : Pl) (e n b : Nat) : osNil op h p ⟨.slice e, n, b⟩ = osArr op (h.arrAt p) := by
 simp only [osNil, osArr]
 cases h.arrAt p with
 | none => rfl
 | some v => cases v <;> first | rfl | (rename_i t x; cases t <;> rfl)
theorem osArr_some (op : BinOp) (t : Ty) (xs : List t.Den) : osArr op (some (.d (.slice t) xs)) = if List.length xs = 0 then none else boolOf op false := rfl
theorem bt_nilP (op : BinOp) (T : Nat) (y : AV) : binOpT E op T .nilP y = (E.tab T).bind (cmpVia op .nilP y) := rfl
theorem bt_op (op : BinOp) (T : Nat) (i n : Nat) (y : AV) : binOpT E op T (.op i n) y = (E.tab T).bind (cmpVia op (.op i n) y) := rfl
theorem bt_el (op : BinOp) (T : Nat) (p : Pl) (i n : Nat) (y : AV) : binOpT E op T (.el p i n) y = (E.tab T).bind (cmpVia op (.el p i n) y) := rfl
theorem bt_rp (op : BinOp) (T : Nat) (vs : List AV) (y : AV) : binOpT E op T (.rp vs) y = (E.tab T).bind (cmpVia op (.rp vs) y) := rfl
theorem bt_nilS (op : BinOp) (T : Nat) (y : AV) : binOpT E op T .nilS y = (E.tab T).bind (cmpVia op .nilS y) := rfl
theorem bt_sl (op : BinOp) (T : Nat) (t : Ty) (xs : List t.Den) (y : AV) : binOpT E op T (.d (.slice t) xs) y = (E.tab T).bind (cmpVia op (.d (.slice t) xs) y) := rfl
theorem cn_nn (e : Nat) : cmpNil (.ptr e) .nilP .nilP = some true := rfl
theorem cn_no (e i n : Nat) : cmpNil (.ptr e) .nilP (.op i n) = some false := rfl
theorem cn_ne (e : Nat) (p : Pl) (i n : Nat) : cmpNil (.ptr e) .nilP (.el p i n) = some false := rfl
theorem cn_nr (e : Nat) (vs : List AV) : cmpNil (.ptr e) .nilP (.rp vs) = some false := rfl
theorem cn_on (e i n : Nat) : cmpNil (.ptr e) (.op i n) .nilP = some false := rfl
theorem cn_en (e : Nat) (p : Pl) (i n : Nat) : cmpNil (.ptr e) (.el p i n) .nilP = some false := rfl
theorem cn_rn (e : Nat) (vs : List AV) : cmpNil (.ptr e) (.rp vs) .nilP = some false := rfl
theorem cn_ss (e : Nat) : cmpNil (.slice e) .nilS .nilS = some true := rfl
theorem cn_sn (e : Nat) (t : Ty) (xs : List t.Den) : cmpNil (.slice e) (.d (.slice t) xs) .nilS = if List.length xs = 0 then none else some false := rfl
theorem bo_eql (b : Bool) : boolOf .eql b = some (.d .bool b) := rfl
theorem bo_neq (b : Bool) : boolOf .neq b = some (.d .bool !b) := rfl
theorem bi_add : binOp .add (.d (.int k) a) (.d (.int k) b) = some (.d (.int k) (k.wrap (a + b))) := by simp [binOp, binInt]
theorem bi_sub : binOp .sub (.d (.int k) a) (.d (.int k) b) = some (.d (.int k) (k.wrap (a - b))) := by simp [binOp, binInt]
theorem bi_mul : binOp .mul (.d (.int k) a) (.d (.int k) b) = some (.d (.int k) (k.wrap (a * b))) := by simp [binOp, binInt]
theorem bi_quo : binOp .quo (.d (.int k) a) (.d (.int k) b) = if b = 0 then none else some (.d (.int k) (k.wrap (a.tdiv b))) := by simp [binOp, binInt]
theorem bi_rem : binOp .rem (.d (.int k) a) (.d (.int k) b) = if b = 0 then none else some (.d (.int k) (a.tmod b)) := by simp [binOp, binInt]
theorem bi_shl : binOp .shl (.d (.int k) a) (.d (.int k') b) = if b < 0 then none else some (.d (.int k) (k.wrap (a * 2 ^ (min b.toNat k.bits)))) := rfl
theorem bi_shr : binOp .shr (.d (.int k) a) (.d (.int k') b) = if b < 0 then none else some (.d (.int k) (a.fdiv (2 ^ (min b.toNat k.bits)))) := rfl
def bitsOf (op : BinOp) (k : IntKind) (x y : Int) : Int := (intBits op k x y).getD 0
theorem bi_and : binOp .and (.d (.int k) a) (.d (.int k) b) = some (.d (.int k) (bitsOf .and k a b)) := by simp [binOp, binInt, intBits, bitsOf]
theorem bi_or : binOp .or (.d (.int k) a) (.d (.int k) b) = some (.d (.int k) (bitsOf .or k a b)) := by simp [binOp, binInt, intBits, bitsOf]
theorem bi_xor : binOp .xor (.d (.int k) a) (.d (.int k) b) = some (.d (.int k) (bitsOf .xor k a b)) := by simp [binOp, binInt, intBits, bitsOf]
theorem bi_andNot : binOp .andNot (.d (.int k) a) (.d (.int k) b) = some (.d (.int k) (bitsOf .andNot k a b)) := by simp [binOp, binInt, intBits, bitsOf]
theorem bi_eql : binOp .eql (.d (.int k) a) (.d (.int k) b) = some (.d .bool (decide (a = b))) := by simp [binOp, binInt]; rfl
theorem bi_neq : binOp .neq (.d (.int k) a) (.d (.int k) b) = some (.d .bool (!decide (a = b))) := by simp [binOp, binInt]; rfl
theorem bi_lss : binOp .lss (.d (.int k) a) (.d (.int k) b) = some (.d .bool (decide (a < b))) := by simp [binOp, binInt]
theorem bi_leq : binOp .leq (.d (.int k) a) (.d (.int k) b) = some (.d .bool (decide (a ≤ b))) := by simp [binOp, binInt]
theorem bi_gtr : binOp .gtr (.d (.int k) a) (.d (.int k) b) = some (.d .bool (decide (b < a))) := by simp [binOp, binInt]
theorem bi_geq : binOp .geq (.d (.int k) a) (.d (.int k) b) = some (.d .bool (decide (b ≤ a))) := by simp [binOp, binInt]
theorem bb_eql (x y : Bool) : binOp .eql (.d .bool x) (.d .bool y) = some (.d .bool (x == y)) := rfl
theorem bb_neq (x y : Bool) : binOp .neq (.d .bool x) (.d .bool y) = some (.d .bool (!(x == y))) := rfl
theorem un_not (x : Bool) : unOp .not (.d .bool x) = some (.d .bool (!x)) := rfl
theorem un_neg : unOp .neg (.d (.int k) a) = some (.d (.int k) (k.wrap (0 - a))) := rfl
theorem agg_struct (fs : List (Nat × Nat)) (n m : Nat) : TI.isAgg ⟨.struct fs, n, m⟩ = true := rfl
theorem agg_arr (l e : Nat) (n m : Nat) : TI.isAgg ⟨.arr l e, n, m⟩ = true := rfl
theorem agg_int (n m : Nat) : TI.isAgg ⟨.int k, n, m⟩ = false := rfl
theorem agg_bool (n m : Nat) : TI.isAgg ⟨.bool, n, m⟩ = false := rfl
theorem agg_slice (e : Nat) (n m : Nat) : TI.isAgg ⟨.slice e, n, m⟩ = false := rfl
theorem agg_ptr (e : Nat) (n m : Nat) : TI.isAgg ⟨.ptr e, n, m⟩ = false := rfl
theorem agg_func (n m : Nat) : TI.isAgg ⟨.func, n, m⟩ = false := rfl
theorem ca_rp (vs : List AV) : cellsAt h (.rp vs) = some vs := rfl

def boxCells (off : Nat) : Option Obj → Option (List AV)
 | some (.box vs) => some (vs.drop off)
 | _ => none
theorem ca_op (id off : Nat) : cellsAt h (.op id off) = boxCells off (h.get id) := by
 simp only [cellsAt, boxCells]
 cases h.get id with
 | none => rfl
 | some o => cases o <;> rfl
theorem boxCells_box (off : Nat) (vs : List AV) : boxCells off (some (.box vs)) = some (vs.drop off) := rfl
theorem ca_el (p : Pl) (i off : Nat) : cellsAt h (.el p i off) = (h.arrAt p).bind (elAt h p i off) := rfl
theorem elAt_eq (p : Pl) (i off : Nat) (t : Ty) (xs : List t.Den) : elAt h p i off (.d (.slice t) xs) = some ((elemCells h p i t (xs.getD i t.zero)).drop off) := rfl
def arrOf : Option Obj → Option AV
 | some (.arr _ _ t xs) => some (.d (.slice t) xs)
 | _ => none
theorem arrAt_t (id : Nat) : Heap.arrAt h (.t id) = arrOf (h.get id) := by
 simp only [Heap.arrAt, arrOf]
 cases h.get id with
 | none => rfl
 | some o => cases o <;> rfl
theorem arrOf_arr (m d : Bool) (t : Ty) (xs : List t.Den) : arrOf (some (.arr m d t xs)) = some (.d (.slice t) xs) := rfl
def slOf : Option AV → Option AV
 | some (.d (.slice t') ys) => some (.d (.slice t') ys)
 | _ => none
def arrIn (i off : Nat) : Option Obj → Option AV
 | some (.arr _ true t xs) => if i < xs.length then slOf (flat t (xs.getD i t.zero))[off]? else none
 | _ => none
theorem arrAt_n (id i off : Nat) : Heap.arrAt h (.n id i off) = arrIn i off (h.get id) := by
 simp only [Heap.arrAt, arrIn]
 cases h.get id with
 | none => rfl
 | some o =>
  cases o with
  | arr m d t xs => cases d <;> rfl
  | _ => rfl
theorem arrIn_arr (i off : Nat) (m : Bool) (t : Ty) (xs : List t.Den) : arrIn i off (some (.arr m true t xs)) = if i < xs.length then slOf (flat t (xs.getD i t.zero))[off]? else none := rfl
theorem slOf_d (t : Ty) (xs : List t.Den) : slOf (some (.d (.slice t) xs)) = some (.d (.slice t) xs) := rfl
def deepOf : Option Obj → Bool
 | some (.arr _ d _ _) => d
 | _ => false
theorem deepAt_t (id : Nat) : Heap.deepAt h (.t id) = deepOf (h.get id) := by
 simp only [Heap.deepAt, deepOf]
 cases h.get id with
 | none => rfl
 | some o => cases o <;> rfl
theorem deepAt_n (id i off : Nat) : Heap.deepAt h (.n id i off) = false := rfl
theorem deepOf_arr (m d : Bool) (t : Ty) (xs : List t.Den) : deepOf (some (.arr m d t xs)) = d := rfl
def setOf (h : Heap) (id : Nat) (t : Ty) (ys : List t.Den) : Option Obj → Option Heap
 | some (.arr m d t' _) => if t' = t then some (h.put id (.arr m d t ys)) else none
 | _ => none
theorem setAt_t (t : Ty) (ys : List t.Den) (id : Nat) : Heap.setAt h t ys (.t id) = setOf h id t ys (h.get id) := by
 simp only [Heap.setAt, setOf]
 cases h.get id with
 | none => rfl
 | some o => cases o <;> rfl
theorem setOf_arr (id : Nat) (t : Ty) (ys : List t.Den) (m d : Bool) (t' : Ty) (xs : List t'.Den) : setOf h id t ys (some (.arr m d t' xs)) = if t' = t then some (h.put id (.arr m d t ys)) else none := rfl
def setIn2 (h : Heap) (id i off : Nat) (t : Ty) (ys : List t.Den) : Option Obj → Option Heap
 | some o => (o.setIn i off t ys).map fun o' => h.put id o'
 | none => none
theorem setAt_n (t : Ty) (ys : List t.Den) (id i off : Nat) : Heap.setAt h t ys (.n id i off) = setIn2 h id i off t ys (h.get id) := by
 simp only [Heap.setAt, setIn2]
 cases h.get id <;> rfl
def oneOnly {α : Type} (y : α × List AV) : Option α := if y.2.isEmpty = true then some y.1 else none
theorem oneOnly_mk {α : Type} (y : α) (r : List AV) : oneOnly (y, r) = if r.isEmpty = true then some y else none := rfl
def setIn4 (h : Heap) (id : Nat) (m : Bool) (t : Ty) (xs : List t.Den) (i : Nat) (y : t.Den) : Heap := h.put id (.arr m true t (xs.set i y))
theorem setIn4_eq (id : Nat) (m : Bool) (t : Ty) (xs : List t.Den) (i : Nat) (y : t.Den) : setIn4 h id m t xs i y = h.put id (.arr m true t (xs.set i y)) := rfl
theorem setIn2_arr (id i off : Nat) (t' : Ty) (ys : List t'.Den) (m : Bool) (t : Ty) (xs : List t.Den) : setIn2 h id i off t' ys (some (.arr m true t xs)) = if i < xs.length then ((unflat t ((flat t (xs.getD i t.zero)).set off (.d (.slice t') ys))).bind oneOnly).map (setIn4 h id m t xs i) else none := by
 simp only [setIn2, Obj.setIn]
 split
 ·cases unflat t ((flat t (xs.getD i t.zero)).set off (.d (.slice t') ys)) with
  | none => rfl
  | some y => simp only [Option.bind_some, oneOnly]; split <;> rfl
 ·rfl
def elemVia (d : Bool) (id i : Nat) (cs : List AV) : List AV := if d = true then deepCells id i 0 cs else cs
theorem elemCells_eq (p : Pl) (i : Nat) (t : Ty) (x : t.Den) : elemCells h p i t x = elemVia (h.deepAt p) p.id i (flat t x) := rfl
theorem elemVia_true (id i : Nat) (cs : List AV) : elemVia true id i cs = deepCells id i 0 cs := rfl
theorem elemVia_false (id i : Nat) (cs : List AV) : elemVia false id i cs = cs := rfl
theorem deepCells_nil (id i j : Nat) : deepCells id i j [] = [] := rfl
theorem deepCells_slice (id i j : Nat) (t : Ty) (x : List t.Den) (cs : List AV) : deepCells id i j (.d (.slice t) x :: cs) = .os (.n id i j) :: deepCells id i (j + 1) cs := rfl
theorem deepCells_int (id i j : Nat) (k : IntKind) (x : Int) (cs : List AV) : deepCells id i j (.d (.int k) x :: cs) = .d (.int k) x :: deepCells id i (j + 1) cs := rfl
theorem deepCells_bool (id i j : Nat) (x : Bool) (cs : List AV) : deepCells id i j (.d .bool x :: cs) = .d .bool x :: deepCells id i (j + 1) cs := rfl
theorem deepCells_str (id i j : Nat) (x : ByteArray) (cs : List AV) : deepCells id i j (.d .str x :: cs) = .d .str x :: deepCells id i (j + 1) cs := rfl
theorem deepCells_err (id i j : Nat) (x : Bool) (cs : List AV) : deepCells id i j (.d .err x :: cs) = .d .err x :: deepCells id i (j + 1) cs := rfl
theorem pid_t (i : Nat) : Pl.id (.t i) = i := rfl
theorem pid_n (i j k : Nat) : Pl.id (.n i j k) = i := rfl
theorem pin_t (i : Nat) : Pl.isIn (.t i) = false := rfl
theorem pin_n (i j k : Nat) : Pl.isIn (.n i j k) = true := rfl
theorem lenAV_d (t : Ty) (xs : List t.Den) : lenAV (.d (.slice t) xs) = some (List.length xs) := rfl
theorem sizeAV_d (t : Ty) (xs : List t.Den) : sizeAV (.d (.slice t) xs) = some t.size := rfl
theorem cutO_d (a n : Nat) (t : Ty) (xs : List t.Den) : cutO a n (.d (.slice t) xs) = some (.d (.slice t) ((List.drop a xs).take n)) := rfl
theorem elO_d (i off : Nat) (t : Ty) (xs : List t.Den) : elO i off (.d (.slice t) xs) = some (.rp ((flat t (List.getD xs i t.zero)).drop off)) := rfl

def iaOs (tes : Nat) (p : Pl) (i : Int) : AV → Option AV
 | .d (.slice t) xs => if tes = t.size then if 0 ≤ i ∧ i < List.length xs then some (.el p i.toNat 0) else none else none
 | _ => none
def iaSub (tes : Nat) (p : Pl) (a n : Nat) (i : Int) : AV → Option AV
 | .d (.slice t) _ => if tes = t.size then if 0 ≤ i ∧ i < n then some (.el p (a + i.toNat) 0) else none else none
 | _ => none
def iaVia (h : Heap) (i : Int) (tes : Nat) : AV → Option AV
 | .d (.slice t) xs => if tes = t.size then if 0 ≤ i ∧ i < List.length xs then some (.rp (flat t (List.getD xs i.toNat t.zero))) else none else none
 | .os p => (h.arrAt p).bind (iaOs tes p i)
 | .sub p a n => (h.arrAt p).bind (iaSub tes p a n i)
 | _ => none
def iaEl (h : Heap) (x : AV) (i : Int) (te : TI) : Option AV := iaVia h i te.size x
theorem iaEl_mk (x : AV) (i : Int) (td : TD) (n m : Nat) : iaEl h x i ⟨td, n, m⟩ = iaVia h i n x := rfl
def iaArr (x : AV) (n : Nat) (i : Int) (te : TI) : Option AV := if 0 ≤ i ∧ i < n ∧ 1 < n then match x with
    | .rp vs => some (.rp (vs.drop (i.toNat * te.size)))
    | .op id off => some (.op id (off + i.toNat * te.size))
    | _ => none
   else none
theorem iaArr_rp (vs : List AV) (n : Nat) (i : Int) (td : TD) (a b : Nat) : iaArr (.rp vs) n i ⟨td, a, b⟩ = if 0 ≤ i ∧ i < n ∧ 1 < n then some (.rp (vs.drop (i.toNat * a))) else none := rfl
theorem iaArr_op (id off : Nat) (n : Nat) (i : Int) (td : TD) (a b : Nat) : iaArr (.op id off) n i ⟨td, a, b⟩ = if 0 ≤ i ∧ i < n ∧ 1 < n then some (.op id (off + i.toNat * a)) else none := rfl
def iaTI (E : Env) (h : Heap) (x : AV) (i : Int) (ti : TI) : Option AV := match ti.desc with
 | .slice e => (E.tab e).bind (iaEl h x i)
 | .arr n e => (E.tab e).bind (iaArr x n i)
 | _ => none
theorem indexAddr_eq (T : Nat) (x : AV) (i : Int) : indexAddr E h T x i = (E.tab T).bind (iaTI E h x i) := by
 unfold indexAddr
 congr 1; funext ti
 unfold iaTI
 cases ti.desc with
 | slice e =>
  simp only
  congr 1; funext te
  unfold iaEl iaVia
  cases x with
  | d t xs => cases t <;> rfl
  | os p =>
   simp only
   congr 1; funext v
   unfold iaOs
   cases v with
   | d t xs => cases t <;> rfl
   | _ => rfl
  | sub p a n =>
   simp only
   congr 1; funext v
   unfold iaSub
   cases v with
   | d t xs => cases t <;> rfl
   | _ => rfl
  | _ => rfl
 | arr n e => rfl
 | _ => rfl
theorem iaTI_slice (x : AV) (i : Int) (e n m : Nat) : iaTI E h x i ⟨.slice e, n, m⟩ = (E.tab e).bind (iaEl h x i) := rfl
theorem iaTI_arr (x : AV) (i : Int) (l e n m : Nat) : iaTI E h x i ⟨.arr l e, n, m⟩ = (E.tab e).bind (iaArr x l i) := rfl
theorem iaVia_d (i : Int) (tes : Nat) (t : Ty) (xs : List t.Den) : iaVia h i tes (.d (.slice t) xs) = if tes = t.size then if 0 ≤ i ∧ i < List.length xs then some (.rp (flat t (List.getD xs i.toNat t.zero))) else none else none := rfl
theorem iaVia_os (i : Int) (tes : Nat) (p : Pl) : iaVia h i tes (.os p) = (h.arrAt p).bind (iaOs tes p i) := rfl
theorem iaVia_sub (i : Int) (tes : Nat) (p : Pl) (a n : Nat) : iaVia h i tes (.sub p a n) = (h.arrAt p).bind (iaSub tes p a n i) := rfl
theorem iaOs_d (i : Int) (tes : Nat) (p : Pl) (t : Ty) (xs : List t.Den) : iaOs tes p i (.d (.slice t) xs) = if tes = t.size then if 0 ≤ i ∧ i < List.length xs then some (.el p i.toNat 0) else none else none := rfl
theorem iaSub_d (i : Int) (tes : Nat) (p : Pl) (a n : Nat) (t : Ty) (xs : List t.Den) : iaSub tes p a n i (.d (.slice t) xs) = if tes = t.size then if 0 ≤ i ∧ i < n then some (.el p (a + i.toNat) 0) else none else none := rfl
def faF (x : AV) (o : Nat) (tf : TI) : Option AV := if tf.size = 0 then none else match x with
   | .rp vs => some (.rp (vs.drop o))
   | .op id off => some (.op id (off + o))
   | .el p i off => some (.el p i (off + o))
   | _ => none
theorem faF_rp (vs : List AV) (o : Nat) (td : TD) (n m : Nat) : faF (.rp vs) o ⟨td, n, m⟩ = if n = 0 then none else some (.rp (vs.drop o)) := rfl
theorem faF_op (id off : Nat) (o : Nat) (td : TD) (n m : Nat) : faF (.op id off) o ⟨td, n, m⟩ = if n = 0 then none else some (.op id (off + o)) := rfl
theorem faF_el (p : Pl) (i off : Nat) (o : Nat) (td : TD) (n m : Nat) : faF (.el p i off) o ⟨td, n, m⟩ = if n = 0 then none else some (.el p i (off + o)) := rfl
def faP (E : Env) (x : AV) (f : Nat × Nat) : Option AV := (E.tab f.2).bind (faF x f.1)
theorem faP_mk (x : AV) (o T : Nat) : faP E x (o, T) = (E.tab T).bind (faF x o) := rfl
def faTI (E : Env) (x : AV) (j : Nat) (ti : TI) : Option AV := match ti.desc with
 | .struct fs => (fs[j]?).bind (faP E x)
 | _ => none
theorem fieldAddr_eq (T : Nat) (x : AV) (j : Nat) : fieldAddr E T x j = (E.tab T).bind (faTI E x j) := rfl
theorem faTI_struct (x : AV) (j : Nat) (fs : List (Nat × Nat)) (n m : Nat) : faTI E x j ⟨.struct fs, n, m⟩ = (fs[j]?).bind (faP E x) := rfl
def fiF (x : AV) (o : Nat) (tf : TI) : Option AV := match x with
   | .agg vs => if o + tf.size ≤ vs.length then mkV tf ((vs.drop o).take tf.size) else none
   | _ => none
theorem fiF_agg (vs : List AV) (o : Nat) (td : TD) (n m : Nat) : fiF (.agg vs) o ⟨td, n, m⟩ = if o + n ≤ vs.length then mkV ⟨td, n, m⟩ ((vs.drop o).take n) else none := rfl
def fiP (E : Env) (x : AV) (f : Nat × Nat) : Option AV := (E.tab f.2).bind (fiF x f.1)
theorem fiP_mk (x : AV) (o T : Nat) : fiP E x (o, T) = (E.tab T).bind (fiF x o) := rfl
def fiTI (E : Env) (x : AV) (j : Nat) (ti : TI) : Option AV := match ti.desc with
 | .struct fs => (fs[j]?).bind (fiP E x)
 | _ => none
theorem field_eq (T : Nat) (x : AV) (j : Nat) : field E T x j = (E.tab T).bind (fiTI E x j) := rfl
theorem fiTI_struct (x : AV) (j : Nat) (fs : List (Nat × Nat)) (n m : Nat) : fiTI E x j ⟨.struct fs, n, m⟩ = (fs[j]?).bind (fiP E x) := rfl
def mkOne : List AV → Option AV
 | [v] => some v
 | _ => none
theorem mkV_eq (td : TD) (n m : Nat) (vs : List AV) : mkV ⟨td, n, m⟩ vs = if TI.isAgg ⟨td, n, m⟩ = true then some (.agg vs) else mkOne vs := rfl
theorem mkOne_one (v : AV) : mkOne [v] = some v := rfl
def loadCells (ti : TI) (vs : List AV) : Option AV := if ti.size ≤ vs.length then mkV ti (vs.take ti.size) else none
theorem loadCells_eq (td : TD) (n m : Nat) (vs : List AV) : loadCells ⟨td, n, m⟩ vs = if n ≤ vs.length then mkV ⟨td, n, m⟩ (vs.take n) else none := rfl
def loadTI (h : Heap) (p : AV) (ti : TI) : Option AV := (cellsAt h p).bind (loadCells ti)
theorem loadTI_eq (p : AV) (td : TD) (n m : Nat) : loadTI h p ⟨td, n, m⟩ = (cellsAt h p).bind (loadCells ⟨td, n, m⟩) := rfl
theorem loadAt_eq (T : Nat) (p : AV) : loadAt E h T p = (E.tab T).bind (loadTI h p) := rfl

def boxPut (s : Slots) (h : Heap) (id off n : Nat) (cs : List AV) : Option Obj → Option St
 | some (.box vs) => if off + n ≤ vs.length ∧ cs.all AV.isOne = true then some ⟨s, h.put id (.box (vs.take off ++ cs ++ vs.drop (off + n)))⟩ else none
 | _ => none
theorem boxPut_box (id off n : Nat) (cs vs : List AV) : boxPut s h id off n cs (some (.box vs)) = if off + n ≤ vs.length ∧ cs.all AV.isOne = true then some ⟨s, h.put id (.box (vs.take off ++ cs ++ vs.drop (off + n)))⟩ else none := rfl
def storeVia (s : Slots) (h : Heap) (n : Nat) (cs : List AV) : AV → Option St
 | .op id off => boxPut s h id off n cs (h.get id)
 | .el p i off => storeEl ⟨s, h⟩ p i off cs
 | _ => none
theorem storeVia_op (n : Nat) (cs : List AV) (id off : Nat) : storeVia s h n cs (.op id off) = boxPut s h id off n cs (h.get id) := rfl
theorem storeVia_el (n : Nat) (cs : List AV) (p : Pl) (i off : Nat) : storeVia s h n cs (.el p i off) = storeEl ⟨s, h⟩ p i off cs := rfl
def storeTI (s : Slots) (h : Heap) (p v : AV) (ti : TI) : Option St := if v.cells.length ≠ ti.size ∨ v.isUndef = true then none else storeVia s h ti.size v.cells p
theorem storeTI_eq (p v : AV) (td : TD) (n m : Nat) : storeTI s h p v ⟨td, n, m⟩ = if v.cells.length ≠ n ∨ v.isUndef = true then none else storeVia s h n v.cells p := rfl
theorem storeAt_eq (T : Nat) (p v : AV) : storeAt E ⟨s, h⟩ T p v = (E.tab T).bind (storeTI s h p v) := by
 unfold storeAt
 congr 1
def flatSet (s : Slots) (h : Heap) (p : Pl) (i : Nat) (t : Ty) (xs : List t.Den) (y : t.Den) : Option St := (h.setAt t (List.set xs i y) p).map (St.mk s)
theorem flatSet_eq (p : Pl) (i : Nat) (t : Ty) (xs : List t.Den) (y : t.Den) : flatSet s h p i t xs y = (h.setAt t (List.set xs i y) p).map (St.mk s) := rfl
theorem storeFlat_eq (p : Pl) (i off : Nat) (cs : List AV) (t : Ty) (xs : List t.Den) : storeFlat ⟨s, h⟩ p i off cs (.d (.slice t) xs) = (spliceEl t (List.getD xs i t.zero) off cs).bind (flatSet s h p i t xs) := rfl
theorem spliceEl_eq (t : Ty) (x : t.Den) (off : Nat) (cs : List AV) : spliceEl t x off cs = if off + cs.length ≤ t.size then (unflat t ((flat t x).take off ++ cs ++ (flat t x).drop (off + cs.length))).bind oneOnly else none := rfl
def storeFr (id i off : Nat) (r : List AV × St) : Option St := (r.2.heap.arrAt (.t id)).bind (storeFlat r.2 (.t id) i off r.1)
theorem storeFr_mk (id i off : Nat) (cs : List AV) : storeFr id i off (cs, ⟨s, h⟩) = (h.arrAt (.t id)).bind (storeFlat ⟨s, h⟩ (.t id) i off cs) := rfl
def orElse2 (f : Option St) : Option St → Option St
 | some s => some s
 | none => f
theorem orElse2_some (f : Option St) (st : St) : orElse2 f (some st) = some st := rfl
def storeTo (s : Slots) (h : Heap) (id i off : Nat) (cs : List AV) : Option Obj → Option St
 | some (.arr m true t xs) => match storeDeep ⟨s, h⟩ id t m xs i off cs with
   | some s => some s
   | none => (freezes 4 (St.freezeIn ⟨s, h⟩ id) (AV.mapRs (frozenInF h id) cs)).bind (storeFr id i off)
 | _ => (freezes 4 ⟨s, h⟩ cs).bind (storeFr id i off)
theorem storeEl_t (id i off : Nat) (cs : List AV) : storeEl ⟨s, h⟩ (.t id) i off cs = storeTo s h id i off cs (h.get id) := by
 unfold storeEl storeTo
 simp only
 cases h.get id with
 | none => rfl
 | some o =>
  cases o with
  | arr m d t xs => cases d <;> rfl
  | _ => rfl
theorem storeEl_n (id j o i off : Nat) (cs : List AV) : storeEl ⟨s, h⟩ (.n id j o) i off cs = if AV.owneds cs = true ∨ AV.sharess cs = true then none else (h.arrAt (.n id j o)).bind (storeFlat ⟨s, h⟩ (.n id j o) i off cs) := rfl
theorem storeTo_flat (id i off : Nat) (cs : List AV) (m : Bool) (t : Ty) (xs : List t.Den) : storeTo s h id i off cs (some (.arr m false t xs)) = (freezes 4 ⟨s, h⟩ cs).bind (storeFr id i off) := rfl
def deepThen (s : Slots) (h : Heap) (id i off : Nat) (cs : List AV) : Option St → Option St
 | some s => some s
 | none => (freezes 4 (St.freezeIn ⟨s, h⟩ id) (AV.mapRs (frozenInF h id) cs)).bind (storeFr id i off)
theorem storeTo_deep (id i off : Nat) (cs : List AV) (m : Bool) (t : Ty) (xs : List t.Den) : storeTo s h id i off cs (some (.arr m true t xs)) = deepThen s h id i off cs (storeDeep ⟨s, h⟩ id t m xs i off cs) := by
 unfold storeTo deepThen
 rfl
theorem deepThen_some (id i off : Nat) (cs : List AV) (st : St) : deepThen s h id i off cs (some st) = some st := rfl
theorem deepThen_none (id i off : Nat) (cs : List AV) : deepThen s h id i off cs none = (freezes 4 (St.freezeIn ⟨s, h⟩ id) (AV.mapRs (frozenInF h id) cs)).bind (storeFr id i off) := rfl
def deep3 (s : Slots) (h : Heap) (id : Nat) (t : Ty) (m : Bool) (xs : List t.Den) (i : Nat) (gone : List Nat) (y : t.Den) : Option St := some ⟨Slots.mapR (killInF id) (St.gone ⟨s, h⟩ gone).tmps, (Heap.mapR (killInF id) (St.gone ⟨s, h⟩ gone).heap).put id (.arr m true t (xs.set i y))⟩
theorem deep3_eq (id : Nat) (t : Ty) (m : Bool) (xs : List t.Den) (i : Nat) (gone : List Nat) (y : t.Den) : deep3 s h id t m xs i gone y = some ⟨Slots.mapR (killInF id) (St.gone ⟨s, h⟩ gone).tmps, (Heap.mapR (killInF id) (St.gone ⟨s, h⟩ gone).heap).put id (.arr m true t (xs.set i y))⟩ := rfl
def deep2 (s : Slots) (h : Heap) (id : Nat) (t : Ty) (m : Bool) (xs : List t.Den) (i off : Nat) (r : List AV × List Nat) : Option St := if nodupN (id :: r.2) = true then (spliceEl t (xs.getD i t.zero) off r.1).bind (deep3 s h id t m xs i r.2) else none
theorem deep2_mk (id : Nat) (t : Ty) (m : Bool) (xs : List t.Den) (i off : Nat) (cs : List AV) (gone : List Nat) : deep2 s h id t m xs i off (cs, gone) = if nodupN (id :: gone) = true then (spliceEl t (xs.getD i t.zero) off cs).bind (deep3 s h id t m xs i gone) else none := rfl
theorem storeDeep_eq (id : Nat) (t : Ty) (m : Bool) (xs : List t.Den) (i off : Nat) (cs : List AV) : storeDeep ⟨s, h⟩ id t m xs i off cs = (absorbs h cs).bind (deep2 s h id t m xs i off) := rfl
theorem absorbs_nil : absorbs h [] = some ([], []) := rfl
def abs3 (r : AV × List Nat) (q : List AV × List Nat) : List AV × List Nat := (r.1 :: q.1, r.2 ++ q.2)
theorem abs3_mk (v : AV) (i : List Nat) (vs : List AV) (is_ : List Nat) : abs3 (v, i) (vs, is_) = (v :: vs, i ++ is_) := rfl
def abs2 (h : Heap) (vs : List AV) (r : AV × List Nat) : Option (List AV × List Nat) := (absorbs h vs).map (abs3 r)
theorem abs2_eq (vs : List AV) (v : AV) (i : List Nat) : abs2 h vs (v, i) = (absorbs h vs).map (abs3 (v, i)) := rfl
theorem absorbs_cons (v : AV) (vs : List AV) : absorbs h (v :: vs) = (absorb1 h v).bind (abs2 h vs) := rfl
def absO (id : Nat) : Option Obj → Option (AV × List Nat)
 | some (.arr _ false t xs) => some (.d (.slice t) xs, [id])
 | _ => none
theorem absorb1_os (id : Nat) : absorb1 h (.os (.t id)) = absO id (h.get id) := by
 simp only [absorb1, absO]
 cases h.get id with
 | none => rfl
 | some o =>
  cases o with
  | arr m d t xs => cases d <;> rfl
  | _ => rfl
theorem absO_arr (id : Nat) (m : Bool) (t : Ty) (xs : List t.Den) : absO id (some (.arr m false t xs)) = some (.d (.slice t) xs, [id]) := rfl
theorem absO_deep (id : Nat) (m : Bool) (t : Ty) (xs : List t.Den) : absO id (some (.arr m true t xs)) = none := rfl
theorem absorb1_in (id i o : Nat) : absorb1 h (.os (.n id i o)) = none := rfl
theorem absorb1_sub (p : Pl) (i o : Nat) : absorb1 h (.sub p i o) = none := rfl
theorem absorb1_d (t : Ty) (x : t.Den) : absorb1 h (.d t x) = if t.refs = true then none else some (.d t x, []) := rfl
theorem absorb1_nil : absorb1 h .nilS = some (.nilS, []) := rfl
theorem absorb1_emp : absorb1 h .empS = some (.empS, []) := rfl
theorem gone_nil : St.gone ⟨s, h⟩ [] = ⟨s, h⟩ := rfl
theorem gone_cons (id : Nat) (ids : List Nat) : St.gone ⟨s, h⟩ (id :: ids) = St.gone ⟨Slots.mapR (killF id) s, (Heap.mapR (killF id) h).put id .dead⟩ ids := rfl
def frz (n : Nat) (s : Slots) (h : Heap) (vs : List AV) : Option Nat → Option (List AV × St)
 | none => some (vs, ⟨s, h⟩)
 | some id => match h.get id with
   | some (.arr _ _ _ _) => freezes n (St.freeze ⟨s, h⟩ id) (AV.mapRs (frozenF h id) vs)
   | _ => none
theorem freezes_succ (n : Nat) (vs : List AV) : freezes (n + 1) ⟨s, h⟩ vs = frz n s h vs (vs.findSome? AV.top) := by
 unfold freezes frz
 rfl
theorem frz_none (n : Nat) (vs : List AV) : frz n s h vs none = some (vs, ⟨s, h⟩) := rfl
def frzO (n : Nat) (s : Slots) (h : Heap) (vs : List AV) (id : Nat) : Option Obj → Option (List AV × St)
 | some (.arr _ _ _ _) => freezes n (St.freeze ⟨s, h⟩ id) (AV.mapRs (frozenF h id) vs)
 | _ => none
theorem frz_some (n : Nat) (vs : List AV) (id : Nat) : frz n s h vs (some id) = frzO n s h vs id (h.get id) := by
 unfold frz frzO; rfl
theorem frzO_arr (n : Nat) (vs : List AV) (id : Nat) (m d : Bool) (t : Ty) (xs : List t.Den) : frzO n s h vs id (some (.arr m d t xs)) = freezes n (St.freeze ⟨s, h⟩ id) (AV.mapRs (frozenF h id) vs) := rfl
theorem fst_nil : List.findSome? AV.top [] = none := rfl
theorem fst_os (p : Pl) (vs : List AV) : List.findSome? AV.top (.os p :: vs) = some p.id := rfl
theorem fst_sub (p : Pl) (a n : Nat) (vs : List AV) : List.findSome? AV.top (.sub p a n :: vs) = some p.id := rfl
theorem fst_d (t : Ty) (x : t.Den) (vs : List AV) : List.findSome? AV.top (.d t x :: vs) = List.findSome? AV.top vs := rfl
theorem fst_nilS (vs : List AV) : List.findSome? AV.top (.nilS :: vs) = List.findSome? AV.top vs := rfl
theorem fst_empS (vs : List AV) : List.findSome? AV.top (.empS :: vs) = List.findSome? AV.top vs := rfl
theorem fst_rp (us : List AV) (vs : List AV) : List.findSome? AV.top (.rp us :: vs) = List.findSome? AV.top vs := rfl
theorem fst_fn (f : Nat) (us : List AV) (vs : List AV) : List.findSome? AV.top (.fn f us :: vs) = List.findSome? AV.top vs := rfl
theorem fst_nilP (vs : List AV) : List.findSome? AV.top (.nilP :: vs) = List.findSome? AV.top vs := rfl
theorem freeze_eq (id : Nat) : St.freeze ⟨s, h⟩ id = ⟨Slots.mapR (frozenF h id) s, (Heap.mapR (frozenF h id) h).put id .dead⟩ := rfl
def frIn (s : Slots) (h : Heap) (id : Nat) : Option Obj → St
 | some (.arr m true t xs) => ⟨Slots.mapR (frozenInF h id) s, (Heap.mapR (frozenInF h id) h).put id (.arr m false t xs)⟩
 | _ => ⟨s, h⟩
theorem freezeIn_eq (id : Nat) : St.freezeIn ⟨s, h⟩ id = frIn s h id (h.get id) := by
 unfold St.freezeIn frIn
 simp only
 cases h.get id with
 | none => rfl
 | some o =>
  cases o with
  | arr m d t xs => cases d <;> rfl
  | _ => rfl
theorem frIn_deep (id : Nat) (m : Bool) (t : Ty) (xs : List t.Den) : frIn s h id (some (.arr m true t xs)) = ⟨Slots.mapR (frozenInF h id) s, (Heap.mapR (frozenInF h id) h).put id (.arr m false t xs)⟩ := rfl
theorem frIn_flat (id : Nat) (m : Bool) (t : Ty) (xs : List t.Den) : frIn s h id (some (.arr m false t xs)) = ⟨s, h⟩ := rfl
def allocVia2 (s : Slots) (h : Heap) (id : Nat) (o : Obj) : Option Obj → St
 | none => ⟨s, h.put id o⟩
 | some _ => ⟨Slots.mapR (killF id) s, (Heap.mapR (killF id) h).put id (o.mapR (killF id))⟩
theorem stAlloc_eq (id : Nat) (o : Obj) : St.alloc ⟨s, h⟩ id o = allocVia2 s h id o (h.get id) := by
 unfold St.alloc allocVia2
 cases h.get id <;> rfl
theorem allocVia2_none (id : Nat) (o : Obj) : allocVia2 s h id o none = ⟨s, h.put id o⟩ := rfl
theorem allocVia2_some (id : Nat) (o o' : Obj) : allocVia2 s h id o (some o') = ⟨Slots.mapR (killF id) s, (Heap.mapR (killF id) h).put id (o.mapR (killF id))⟩ := rfl
theorem kill_eq (id : Nat) : St.kill id ⟨s, h⟩ = ⟨Slots.mapR (killF id) s, Heap.mapR (killF id) h⟩ := rfl

section
variable (f : AV → AV)
theorem mr_os (p : Pl) : AV.mapR f (.os p) = f (.os p) := by rw [AV.mapR]
theorem mr_sub (p : Pl) (a n : Nat) : AV.mapR f (.sub p a n) = f (.sub p a n) := by rw [AV.mapR]
theorem mr_el (p : Pl) (a n : Nat) : AV.mapR f (.el p a n) = f (.el p a n) := by rw [AV.mapR]
theorem mr_op (i n : Nat) : AV.mapR f (.op i n) = f (.op i n) := by rw [AV.mapR]
theorem mr_rp (vs : List AV) : AV.mapR f (.rp vs) = .rp (AV.mapRs f vs) := by rw [AV.mapR]
theorem mr_agg (vs : List AV) : AV.mapR f (.agg vs) = .agg (AV.mapRs f vs) := by rw [AV.mapR]
theorem mr_tuple (vs : List AV) : AV.mapR f (.tuple vs) = .tuple (AV.mapRs f vs) := by rw [AV.mapR]
theorem mr_fn (g : Nat) (vs : List AV) : AV.mapR f (.fn g vs) = .fn g (AV.mapRs f vs) := by rw [AV.mapR]
theorem mr_undef : AV.mapR f .undef = .undef := by rw [AV.mapR]
theorem mr_d (t : Ty) (x : t.Den) : AV.mapR f (.d t x) = .d t x := by rw [AV.mapR]
theorem mr_nilS : AV.mapR f .nilS = .nilS := by rw [AV.mapR]
theorem mr_empS : AV.mapR f .empS = .empS := by rw [AV.mapR]
theorem mr_nilF : AV.mapR f .nilF = .nilF := by rw [AV.mapR]
theorem mr_nilP : AV.mapR f .nilP = .nilP := by rw [AV.mapR]
theorem mr_nilM : AV.mapR f .nilM = .nilM := by rw [AV.mapR]
theorem mrs_nil : AV.mapRs f [] = [] := by rw [AV.mapRs]
theorem mrs_cons (v : AV) (vs : List AV) : AV.mapRs f (v :: vs) = AV.mapR f v :: AV.mapRs f vs := by rw [AV.mapRs]
theorem smr_nil : Slots.mapR f [] = [] := rfl
theorem smr_cons (i : Nat) (v : AV) (s : Slots) : Slots.mapR f ((i, v) :: s) = (i, v.mapR f) :: Slots.mapR f s := rfl
theorem hmr_nil : Heap.mapR f [] = [] := rfl
theorem hmr_cons (i : Nat) (o : Obj) (h : Heap) : Heap.mapR f ((i, o) :: h) = (i, o.mapR f) :: Heap.mapR f h := rfl
theorem omr_box (vs : List AV) : Obj.mapR f (.box vs) = .box (AV.mapRs f vs) := rfl
theorem omr_arr (m d : Bool) (t : Ty) (xs : List t.Den) : Obj.mapR f (.arr m d t xs) = .arr m d t xs := rfl
theorem omr_bld (d : Bool) (T e : Nat) (b : ByteArray) : Obj.mapR f (.bld d T e b) = .bld d T e b := rfl
theorem omr_dead : Obj.mapR f .dead = .dead := rfl
end
theorem killF_os (id : Nat) (p : Pl) : killF id (.os p) = if p.id = id then .undef else .os p := rfl
theorem killF_sub (id : Nat) (p : Pl) (a n : Nat) : killF id (.sub p a n) = if p.id = id then .undef else .sub p a n := rfl
theorem killF_el (id : Nat) (p : Pl) (a n : Nat) : killF id (.el p a n) = if p.id = id then .undef else .el p a n := rfl
theorem killF_op (id i a : Nat) : killF id (.op i a) = if i = id then .undef else .op i a := rfl
theorem killF_mp (id i : Nat) : killF id (.mp i) = if i = id then .undef else .mp i := rfl
theorem killInF_os (id : Nat) (p : Pl) : killInF id (.os p) = if p.isIn = true ∧ p.id = id then .undef else .os p := rfl
theorem killInF_sub (id : Nat) (p : Pl) (a n : Nat) : killInF id (.sub p a n) = if p.isIn = true ∧ p.id = id then .undef else .sub p a n := rfl
theorem killInF_el (id : Nat) (p : Pl) (a n : Nat) : killInF id (.el p a n) = if p.isIn = true ∧ p.id = id then .undef else .el p a n := rfl
theorem killInF_op (id i a : Nat) : killInF id (.op i a) = .op i a := rfl
theorem killInF_mp (id i : Nat) : killInF id (.mp i) = .mp i := rfl
theorem frozenF_os (id : Nat) (p : Pl) : frozenF h id (.os p) = if p.id = id then (h.arrAt p).getD .undef else .os p := rfl
theorem frozenF_sub (id : Nat) (p : Pl) (a n : Nat) : frozenF h id (.sub p a n) = if p.id = id then cutAV a n ((h.arrAt p).getD .undef) else .sub p a n := rfl
theorem frozenF_el (id : Nat) (p : Pl) (a n : Nat) : frozenF h id (.el p a n) = if p.id = id then .undef else .el p a n := rfl
theorem frozenF_op (id i a : Nat) : frozenF h id (.op i a) = if i = id then .undef else .op i a := rfl
theorem frozenF_mp (id i : Nat) : frozenF h id (.mp i) = if i = id then .undef else .mp i := rfl
theorem frznInF_os (id : Nat) (p : Pl) : frozenInF h id (.os p) = if p.isIn = true ∧ p.id = id then (h.arrAt p).getD .undef else .os p := rfl
theorem frznInF_sub (id : Nat) (p : Pl) (a n : Nat) : frozenInF h id (.sub p a n) = if p.isIn = true ∧ p.id = id then cutAV a n ((h.arrAt p).getD .undef) else .sub p a n := rfl
theorem frznInF_el (id : Nat) (p : Pl) (a n : Nat) : frozenInF h id (.el p a n) = if p.isIn = true ∧ p.id = id then .undef else .el p a n := rfl
theorem frznInF_op (id i a : Nat) : frozenInF h id (.op i a) = .op i a := rfl
theorem frznInF_mp (id i : Nat) : frozenInF h id (.mp i) = .mp i := rfl
theorem cutAV_d (a n : Nat) (t : Ty) (xs : List t.Den) : cutAV a n (.d (.slice t) xs) = .d (.slice t) ((List.drop a xs).take n) := rfl
theorem lostF_os (ids ins : List Nat) (p : Pl) : lostF ids ins (.os p) = if ids.contains p.id = true ∨ (p.isIn = true ∧ ins.contains p.id = true) then .undef else .os p := rfl
theorem lostF_sub (ids ins : List Nat) (p : Pl) (a n : Nat) : lostF ids ins (.sub p a n) = if ids.contains p.id = true ∨ (p.isIn = true ∧ ins.contains p.id = true) then .undef else .sub p a n := rfl
theorem lostF_el (ids ins : List Nat) (p : Pl) (a n : Nat) : lostF ids ins (.el p a n) = if ids.contains p.id = true ∨ (p.isIn = true ∧ ins.contains p.id = true) then .undef else .el p a n := rfl
theorem lostF_op (ids ins : List Nat) (i a : Nat) : lostF ids ins (.op i a) = if ids.contains i = true then .undef else .op i a := rfl
theorem lostF_mp (ids ins : List Nat) (i : Nat) : lostF ids ins (.mp i) = if ids.contains i = true then .undef else .mp i := rfl
theorem lost_id : ∀ v : AV, lostF [] [] v = v := fun v => by
 cases v <;> simp [lostF]
theorem shrinkF_os (id a n : Nat) (p : Pl) : shrinkF id a n (.os p) = if p.id = id then .undef else .os p := rfl
theorem shrinkF_sub (id a n : Nat) (p : Pl) (a' n' : Nat) : shrinkF id a n (.sub p a' n') = if p.id = id then (if p.isIn = false ∧ a' = a ∧ n' = n then .os (.t id) else .undef) else .sub p a' n' := rfl
theorem shrinkF_el (id a n : Nat) (p : Pl) (i o : Nat) : shrinkF id a n (.el p i o) = if p.id = id then .undef else .el p i o := rfl
theorem shrinkF_op (id a n : Nat) (i o : Nat) : shrinkF id a n (.op i o) = if i = id then .undef else .op i o := rfl
mutual
theorem mapR_idF {f : AV → AV} (hf : ∀ v, f v = v) : ∀ v : AV, AV.mapR f v = v
 | .os _ | .sub _ _ _ | .el _ _ _ | .op _ _ | .mp _ => by simp only [AV.mapR, hf]
 | .rp vs | .agg vs | .tuple vs | .fn _ vs => by simp only [AV.mapR, mapRs_idF hf vs]
 | .undef | .skip | .d _ _ | .nilS | .empS | .nilF | .nilP | .nilM => by simp only [AV.mapR]
theorem mapRs_idF {f : AV → AV} (hf : ∀ v, f v = v) : ∀ vs : List AV, AV.mapRs f vs = vs
 | [] => by simp only [AV.mapRs]
 | v :: vs => by simp only [AV.mapRs, mapR_idF hf v, mapRs_idF hf vs]
end
theorem smr_lost0 (s : Slots) : Slots.mapR (lostF [] []) s = s := by
 induction s with
 | nil => rfl
 | cons x s ih => obtain ⟨i, v⟩ := x; simp only [Slots.mapR, mapR_idF lost_id, ih]
theorem hmr_lost0 (h : Heap) : Heap.mapR (lostF [] []) h = h := by
 induction h with
 | nil => rfl
 | cons x h ih =>
  obtain ⟨i, o⟩ := x
  simp only [Heap.mapR, ih]
  cases o <;> simp only [Obj.mapR, mapRs_idF lost_id]
theorem cells_agg (vs : List AV) : AV.cells (.agg vs) = vs := rfl
theorem cells_d (t : Ty) (x : t.Den) : AV.cells (.d t x) = [.d t x] := rfl
theorem cells_os (i : Pl) : AV.cells (.os i) = [.os i] := rfl
theorem cells_sub (i : Pl) (n m : Nat) : AV.cells (.sub i n m) = [.sub i n m] := rfl
theorem cells_nilS : AV.cells .nilS = [.nilS] := rfl
theorem cells_empS : AV.cells .empS = [.empS] := rfl
theorem cells_fn (f : Nat) (vs : List AV) : AV.cells (.fn f vs) = [.fn f vs] := rfl
theorem cells_op (i n : Nat) : AV.cells (.op i n) = [.op i n] := rfl
theorem cells_rp (vs : List AV) : AV.cells (.rp vs) = [.rp vs] := rfl
theorem cells_el (i : Pl) (j n : Nat) : AV.cells (.el i j n) = [.el i j n] := rfl
theorem und_agg (vs : List AV) : AV.isUndef (.agg vs) = false := rfl
theorem und_d (t : Ty) (x : t.Den) : AV.isUndef (.d t x) = false := rfl
theorem und_os (i : Pl) : AV.isUndef (.os i) = false := rfl
theorem und_sub (i : Pl) (n m : Nat) : AV.isUndef (.sub i n m) = false := rfl
theorem und_nilS : AV.isUndef .nilS = false := rfl
theorem und_empS : AV.isUndef .empS = false := rfl
theorem und_fn (f : Nat) (vs : List AV) : AV.isUndef (.fn f vs) = false := rfl
theorem und_op (i n : Nat) : AV.isUndef (.op i n) = false := rfl
theorem und_rp (vs : List AV) : AV.isUndef (.rp vs) = false := rfl
theorem und_el (i : Pl) (j n : Nat) : AV.isUndef (.el i j n) = false := rfl
theorem cells_nilP : AV.cells .nilP = [.nilP] := rfl
theorem cells_nilF : AV.cells .nilF = [.nilF] := rfl
theorem und_nilP : AV.isUndef .nilP = false := rfl
theorem und_nilF : AV.isUndef .nilF = false := rfl
end
end Go.Q

namespace Go.Q
set_option linter.unusedVariables false
set_option linter.unusedSimpArgs false
set_option linter.unusedSectionVars false
open Go
section
variable {E : Env} {s : Slots} {h : Heap}
def backK (po : Bool) (base : Nat) (s : Slots) (h : Heap) (ls : List Ln) (r : AV × Heap) : Option (AV × St) := if (po && (r.1.shares || r.2.shares)) = true then none else back ⟨s, h⟩ base ls r
theorem backK_mk (po : Bool) (base : Nat) (ls : List Ln) (v : AV) (h' : Heap) : backK po base s h ls (v, h') = if (po && (v.shares || Heap.shares h')) = true then none else back ⟨s, h⟩ base ls (v, h') := rfl
def callK (E : Env) (g base : Nat) (s : Slots) (h : Heap) (po : Bool) (x : List Ln × List AV × Heap) : Option (AV × St) := (E.call g x.2.1 x.2.2).bind (backK po base s h x.1)
theorem callK_mk (g base : Nat) (po : Bool) (ls : List Ln) (us : List AV) (hl : Heap) : callK E g base s h po (ls, us, hl) = (E.call g us hl).bind (backK po base s h ls) := rfl
theorem callG_eq (base g : Nat) (vs : List AV) : callG E ⟨s, h⟩ base g vs = (callPre (E.byref g) ⟨s, h⟩ vs).bind (callK E g base s h (plainOwned (E.byref g) 0 vs)) := rfl
def pre3 (ls : List Ln) (us : List AV) (hl : Heap) : List Ln × List AV × Heap := (ls, us, hl)
theorem pre3_eq (ls : List Ln) (us : List AV) (hl : Heap) : pre3 ls us hl = (ls, us, hl) := rfl
def pre2 (h : Heap) (ls : List Ln) (us : List AV) : Option (List Ln × List AV × Heap) := (lentHeap h ls lentFrom ls).map (pre3 ls us)
theorem pre2_eq (ls : List Ln) (us : List AV) : pre2 h ls us = (lentHeap h ls lentFrom ls).map (pre3 ls us) := rfl
def pre1 (by_ : List Nat) (h : Heap) (vs : List AV) (ls : List Ln) : Option (List Ln × List AV × Heap) := if nodupN (ls.map Ln.id) = true then (argsOf (h.bury ls) ls by_ 0 vs).bind (pre2 h ls) else none
theorem pre1_eq (by_ : List Nat) (vs : List AV) (ls : List Ln) : pre1 by_ h vs ls = if nodupN (ls.map Ln.id) = true then (argsOf (h.bury ls) ls by_ 0 vs).bind (pre2 h ls) else none := rfl
theorem callPre_eq (by_ : List Nat) (vs : List AV) : callPre by_ ⟨s, h⟩ vs = pre1 by_ h vs (closure h 60 (refsOfs (byRefs by_ 0 vs)) []) := rfl
theorem byRefs0 (by_ : List Nat) (k : Nat) : byRefs by_ k [] = [] := rfl
theorem byRefs_cons (by_ : List Nat) (k : Nat) (v : AV) (vs : List AV) : byRefs by_ k (v :: vs) = if by_.contains k = true then v :: byRefs by_ (k + 1) vs else byRefs by_ (k + 1) vs := rfl
theorem byRefs_none : ∀ (k : Nat) (vs : List AV), byRefs [] k vs = []
 | _, [] => rfl
 | k, v :: vs => by rw [byRefs_cons, if_neg (by simp)]; exact byRefs_none (k + 1) vs
theorem plainOwned_nil (by_ : List Nat) (k : Nat) : plainOwned by_ k [] = false := rfl
theorem plainOwned_cons (by_ : List Nat) (k : Nat) (v : AV) (vs : List AV) : plainOwned by_ k (v :: vs) = ((!by_.contains k && v.owned) || plainOwned by_ (k + 1) vs) := rfl
theorem argsOf_nil (ls : List Ln) (by_ : List Nat) (k : Nat) : argsOf h ls by_ k [] = some [] := rfl
def argsOf2 (h : Heap) (ls : List Ln) (by_ : List Nat) (k : Nat) (vs : List AV) (u : AV) : Option (List AV) := (argsOf h ls by_ k vs).map (List.cons u)
theorem argsOf2_eq (ls : List Ln) (by_ : List Nat) (k : Nat) (vs : List AV) (u : AV) : argsOf2 h ls by_ k vs u = (argsOf h ls by_ k vs).map (List.cons u) := rfl
theorem argsOf_cons (ls : List Ln) (by_ : List Nat) (k : Nat) (v : AV) (vs : List AV) : argsOf h ls by_ k (v :: vs) = (if by_.contains k = true then some (v.mapR (lentF ls)) else argOf h 8 v).bind (argsOf2 h ls by_ (k + 1) vs) := rfl
theorem ln_id_a (p : Pl) : Ln.id (.a p) = p.id := rfl
theorem ln_id_b (i : Nat) : Ln.id (.b i) = i := rfl
theorem bury_nil : Heap.bury h [] = h := rfl
theorem bury_cons (l : Ln) (ls : List Ln) : Heap.bury h (l :: ls) = Heap.bury (h.put l.id .dead) ls := rfl
theorem nodupN_nil : nodupN [] = true := rfl
theorem nodupN_cons (x : Nat) (xs : List Nat) : nodupN (x :: xs) = (!xs.contains x && nodupN xs) := rfl
theorem closure_done (n : Nat) (dn : List Ln) : closure h (n + 1) [] dn = dn := rfl
theorem closure_a (n : Nat) (p : Pl) (todo dn : List Ln) : closure h (n + 1) (.a p :: todo) dn = if dn.contains (.a p) = true then closure h n todo dn else closure h n todo (dn ++ [.a p]) := by rw [closure]
def clB (h : Heap) (n : Nat) (todo dn : List Ln) : Option Obj → List Ln
 | some (.box vs) => closure h n (refsOfs vs ++ todo) dn
 | _ => closure h n todo dn
theorem closure_b (n : Nat) (id : Nat) (todo dn : List Ln) : closure h (n + 1) (.b id :: todo) dn = if dn.contains (.b id) = true then closure h n todo dn else clB h n todo (dn ++ [.b id]) (h.get id) := by
 rw [closure]
 simp only [clB]
 split
 ·rfl
 ·cases h.get id with
  | none => rfl
  | some o => cases o <;> rfl
theorem clB_box (n : Nat) (todo dn : List Ln) (vs : List AV) : clB h n todo dn (some (.box vs)) = closure h n (refsOfs vs ++ todo) dn := rfl
theorem clB_bld (n : Nat) (todo dn : List Ln) (d : Bool) (T e : Nat) (s : ByteArray) : clB h n todo dn (some (.bld d T e s)) = closure h n todo dn := rfl
theorem clB_mp (n : Nat) (todo dn : List Ln) (tk tv : Ty) (kvs : List (tk.Den × tv.Den)) : clB h n todo dn (some (.mp tk tv kvs)) = closure h n todo dn := rfl
theorem ln_ab (p : Pl) (i : Nat) : (Ln.a p = Ln.b i) = False := by simp
theorem ln_ba (p : Pl) (i : Nat) : (Ln.b i = Ln.a p) = False := by simp
theorem ln_aa (p q : Pl) : (Ln.a p = Ln.a q) = (p = q) := by simp
theorem ln_bb (i j : Nat) : (Ln.b i = Ln.b j) = (i = j) := by simp
theorem pl_tt (i j : Nat) : (Pl.t i = Pl.t j) = (i = j) := by simp
theorem pl_tn (i j a b : Nat) : (Pl.t i = Pl.n j a b) = False := by simp
theorem pl_nt (i j a b : Nat) : (Pl.n j a b = Pl.t i) = False := by simp
theorem pl_nn (i a b i' a' b' : Nat) : (Pl.n i a b = Pl.n i' a' b') = (i = i' ∧ a = a' ∧ b = b') := by simp
theorem ln_beq (a b : Ln) : (a == b) = decide (a = b) := rfl
theorem indexL_nil (l : Ln) (k : Nat) : indexL l k [] = none := rfl
theorem indexL_cons (l l' : Ln) (k : Nat) (ls : List Ln) : indexL l k (l' :: ls) = if l' = l then some k else indexL l (k + 1) ls := rfl
def lOs : Option Nat → AV
 | some k => .os (.t k)
 | none => .undef
def lSub (a n : Nat) : Option Nat → AV
 | some k => .sub (.t k) a n
 | none => .undef
def lEl (a n : Nat) : Option Nat → AV
 | some k => .el (.t k) a n
 | none => .undef
def lOp (a : Nat) : Option Nat → AV
 | some k => .op k a
 | none => .undef
def lMp : Option Nat → AV
 | some k => .mp k
 | none => .undef
theorem lentF_os (ls : List Ln) (p : Pl) : lentF ls (.os p) = lOs (indexL (.a p) lentFrom ls) := by simp only [lentF, lOs]; split <;> simp_all
theorem lentF_sub (ls : List Ln) (p : Pl) (a n : Nat) : lentF ls (.sub p a n) = lSub a n (indexL (.a p) lentFrom ls) := by simp only [lentF, lSub]; split <;> simp_all
theorem lentF_el (ls : List Ln) (p : Pl) (a n : Nat) : lentF ls (.el p a n) = lEl a n (indexL (.a p) lentFrom ls) := by simp only [lentF, lEl]; split <;> simp_all
theorem lentF_op (ls : List Ln) (i a : Nat) : lentF ls (.op i a) = lOp a (indexL (.b i) lentFrom ls) := by simp only [lentF, lOp]; split <;> simp_all
theorem lentF_mp (ls : List Ln) (i : Nat) : lentF ls (.mp i) = lMp (indexL (.b i) lentFrom ls) := by simp only [lentF, lMp]; split <;> simp_all
theorem lOs_some (k : Nat) : lOs (some k) = .os (.t k) := rfl
theorem lSub_some (a n k : Nat) : lSub a n (some k) = .sub (.t k) a n := rfl
theorem lEl_some (a n k : Nat) : lEl a n (some k) = .el (.t k) a n := rfl
theorem lOp_some (a k : Nat) : lOp a (some k) = .op k a := rfl
theorem lentHeap_nil (ls : List Ln) (k : Nat) : lentHeap h ls k [] = some [] := rfl
def lentHeap2 (h : Heap) (all : List Ln) (k : Nat) (ls : List Ln) (o : Obj) : Option Heap := (lentHeap h all (k + 1) ls).map (List.cons (k, o))
theorem lentHeap2_eq (all : List Ln) (k : Nat) (ls : List Ln) (o : Obj) : lentHeap2 h all k ls o = (lentHeap h all (k + 1) ls).map (List.cons (k, o)) := rfl
theorem lentHeap_cons (all : List Ln) (k : Nat) (l : Ln) (ls : List Ln) : lentHeap h all k (l :: ls) = (lentObj h all l).bind (lentHeap2 h all k ls) := rfl
theorem lentObj_a (all : List Ln) (p : Pl) : lentObj h all (.a p) = (h.arrAt p).bind (lentArr (h.deepAt p)) := rfl
theorem lentArr_d (d : Bool) (t : Ty) (xs : List t.Den) : lentArr d (.d (.slice t) xs) = some (.arr false d t xs) := rfl
def lentB (all : List Ln) : Option Obj → Option Obj
 | some (.box vs) => some (.box (AV.mapRs (lentF all) vs))
 | some (.mp tk tv kvs) => some (.mp tk tv kvs)
 | some (.bld d T e s) => some (.bld d T e s)
 | _ => none
theorem lentB_bld (all : List Ln) (d : Bool) (T e : Nat) (s : ByteArray) : lentB all (some (.bld d T e s)) = some (.bld d T e s) := rfl
theorem lentObj_b (all : List Ln) (i : Nat) : lentObj h all (.b i) = lentB all (h.get i) := by
 simp only [lentObj, lentB]
 cases h.get i with
 | none => rfl
 | some o => cases o <;> rfl
theorem lentB_box (all : List Ln) (vs : List AV) : lentB all (some (.box vs)) = some (.box (AV.mapRs (lentF all) vs)) := rfl
theorem lentB_mp (all : List Ln) (tk tv : Ty) (kvs : List (tk.Den × tv.Den)) : lentB all (some (.mp tk tv kvs)) = some (.mp tk tv kvs) := rfl
theorem newIds_nil : newIds [] = [] := rfl
theorem newIds_cons (i : Nat) (o : Obj) (h : Heap) : newIds ((i, o) :: h) = if i < lentFrom then i :: newIds h else newIds h := rfl
theorem indexN_nil (i k : Nat) : indexN i k [] = none := rfl
theorem indexN_cons (i k j : Nat) (js : List Nat) : indexN i k (j :: js) = if j = i then some k else indexN i (k + 1) js := rfl
theorem getL_nil {α : Type} (n : Nat) : getL ([] : List α) n = none := by cases n <;> rfl
theorem getL_zero {α : Type} (x : α) (xs : List α) : getL (x :: xs) 0 = some x := rfl
theorem getL_succ {α : Type} (x : α) (xs : List α) (n : Nat) : getL (x :: xs) (n + 1) = getL xs n := rfl
def lnPl : Option Ln → Option Pl
 | some (.a p) => some p
 | some (.b id) => some (.t id)
 | none => none
theorem lnPl_a (p : Pl) : lnPl (some (.a p)) = some p := rfl
theorem lnPl_b (i : Nat) : lnPl (some (.b i)) = some (.t i) := rfl
theorem backT_eq (base : Nat) (ls : List Ln) (ns : List Nat) (i : Nat) : backT base ls ns i = if i < lentFrom then (indexN i base ns).map .t else lnPl (getL ls (i - lentFrom)) := by
 unfold backT lnPl
 split
 ·rfl
 ·cases getL ls (i - lentFrom) with
  | none => rfl
  | some l => cases l <;> rfl
def plIn (j off : Nat) : Option Pl → Option Pl
 | some (.t id) => some (.n id j off)
 | _ => none
theorem plIn_t (j off id : Nat) : plIn j off (some (.t id)) = some (.n id j off) := rfl
theorem backP_t (base : Nat) (ls : List Ln) (ns : List Nat) (i : Nat) : backP base ls ns (.t i) = backT base ls ns i := rfl
theorem backP_n (base : Nat) (ls : List Ln) (ns : List Nat) (i j off : Nat) : backP base ls ns (.n i j off) = plIn j off (backT base ls ns i) := by
 unfold backP plIn; rfl
def bOs : Option Pl → AV
 | some q => .os q
 | none => .undef
def bSub (a n : Nat) : Option Pl → AV
 | some q => .sub q a n
 | none => .undef
def bEl (a n : Nat) : Option Pl → AV
 | some q => .el q a n
 | none => .undef
def bOp (a : Nat) : Option Pl → AV
 | some (.t id) => .op id a
 | _ => .undef
def bMp : Option Pl → AV
 | some (.t id) => .mp id
 | _ => .undef
theorem backF_os (base : Nat) (ls : List Ln) (ns : List Nat) (p : Pl) : backF base ls ns (.os p) = bOs (backP base ls ns p) := by simp only [backF, bOs]; split <;> simp_all
theorem backF_sub (base : Nat) (ls : List Ln) (ns : List Nat) (p : Pl) (a n : Nat) : backF base ls ns (.sub p a n) = bSub a n (backP base ls ns p) := by simp only [backF, bSub]; split <;> simp_all
theorem backF_el (base : Nat) (ls : List Ln) (ns : List Nat) (p : Pl) (a n : Nat) : backF base ls ns (.el p a n) = bEl a n (backP base ls ns p) := by simp only [backF, bEl]; split <;> simp_all
theorem backF_op (base : Nat) (ls : List Ln) (ns : List Nat) (i a : Nat) : backF base ls ns (.op i a) = bOp a (backT base ls ns i) := by
 simp only [backF, bOp]
 cases backT base ls ns i with
 | none => rfl
 | some q => cases q <;> rfl
theorem backF_mp (base : Nat) (ls : List Ln) (ns : List Nat) (i : Nat) : backF base ls ns (.mp i) = bMp (backT base ls ns i) := by
 simp only [backF, bMp]
 cases backT base ls ns i with
 | none => rfl
 | some q => cases q <;> rfl
theorem bOs_some (q : Pl) : bOs (some q) = .os q := rfl
theorem bSub_some (a n : Nat) (q : Pl) : bSub a n (some q) = .sub q a n := rfl
theorem bEl_some (a n : Nat) (q : Pl) : bEl a n (some q) = .el q a n := rfl
theorem bOp_some (a i : Nat) : bOp a (some (.t i)) = .op i a := rfl
def backA : Option Obj → Option Obj → Option Obj
 | some (.arr m _ _ _), some (.arr m' d t xs) => some (.arr (m || m') d t xs)
 | some (.arr _ _ _ _), some .dead => some .dead
 | _, _ => none
def backB (f : AV → AV) : Option Obj → Option Obj → Option Obj
 | some (.box _), some (.box vs) => some (.box (AV.mapRs f vs))
 | some (.mp _ _ _), some (.mp tk tv kvs) => some (.mp tk tv kvs)
 | some (.bld _ _ _ _), some (.bld d T e s) => some (.bld d T e s)
 | _, _ => none
theorem backB_bld (f : AV → AV) (d d' : Bool) (T e T' e' : Nat) (s s' : ByteArray) : backB f (some (.bld d T e s)) (some (.bld d' T' e' s')) = some (.bld d' T' e' s') := rfl
theorem backObj_t (f : AV → AV) (h' : Heap) (k id : Nat) : backObj f h h' k (.a (.t id)) = backA (h.get id) (h'.get k) := by
 simp only [backObj]
 cases h.get id with
 | none => rfl
 | some o =>
  cases h'.get k with
  | none => cases o <;> rfl
  | some o' => cases o <;> cases o' <;> rfl
theorem backObj_b (f : AV → AV) (h' : Heap) (k id : Nat) : backObj f h h' k (.b id) = backB f (h.get id) (h'.get k) := by
 simp only [backObj]
 cases h.get id with
 | none => rfl
 | some o =>
  cases h'.get k with
  | none => cases o <;> rfl
  | some o' => cases o <;> cases o' <;> rfl
theorem backA_arr (m d m' d' : Bool) (t t' : Ty) (xs : List t.Den) (ys : List t'.Den) : backA (some (.arr m d t xs)) (some (.arr m' d' t' ys)) = some (.arr (m || m') d' t' ys) := rfl
theorem backA_dead (m d : Bool) (t : Ty) (xs : List t.Den) : backA (some (.arr m d t xs)) (some .dead) = some .dead := rfl
theorem backB_box (f : AV → AV) (us vs : List AV) : backB f (some (.box us)) (some (.box vs)) = some (.box (AV.mapRs f vs)) := rfl
theorem backB_mp (f : AV → AV) (tk tv tk' tv' : Ty) (k1 : List (tk.Den × tv.Den)) (k2 : List (tk'.Den × tv'.Den)) : backB f (some (.mp tk tv k1)) (some (.mp tk' tv' k2)) = some (.mp tk' tv' k2) := rfl
def backN (i off : Nat) (o : Option Obj) : Option AV → Option Obj → Option Obj
 | some (.d (.slice t') _), some (.arr false false t xs) => if t' = t then o.bind fun o => o.setIn i off t xs else none
 | _, _ => none
theorem backObj_n (f : AV → AV) (h' : Heap) (k id i off : Nat) : backObj f h h' k (.a (.n id i off)) = backN i off (h.get id) (h.arrAt (.n id i off)) (h'.get k) := by
 simp only [backObj]
 cases hg : h.get id with
 | none =>
  simp only [Heap.arrAt, hg]
  rfl
 | some o =>
  simp only [Option.bind_some]
  cases h.arrAt (.n id i off) with
  | none => rfl
  | some v =>
   simp only [Option.bind_some]
   cases h'.get k with
   | none =>
    cases v with
    | d t x => cases t <;> rfl
    | _ => rfl
   | some o' =>
    cases o' with
    | arr m d t xs =>
     cases v with
     | d t' x => cases t' <;> cases m <;> cases d <;> rfl
     | _ => cases m <;> cases d <;> rfl
    | _ =>
     cases v with
     | d t' x => cases t' <;> rfl
     | _ => rfl
def setIn6 (m : Bool) (t : Ty) (xs : List t.Den) (i : Nat) (y : t.Den) : Obj := .arr m true t (xs.set i y)
theorem setIn6_eq (m : Bool) (t : Ty) (xs : List t.Den) (i : Nat) (y : t.Den) : setIn6 m t xs i y = .arr m true t (xs.set i y) := rfl
theorem backN_eq (i off : Nat) (m : Bool) (t : Ty) (xs : List t.Den) (t' t'' : Ty) (ys : List t'.Den) (zs : List t''.Den) : backN i off (some (.arr m true t xs)) (some (.d (.slice t') ys)) (some (.arr false false t'' zs)) = if t' = t'' then (if i < xs.length then ((unflat t ((flat t (xs.getD i t.zero)).set off (.d (.slice t'') zs))).bind oneOnly).map (setIn6 m t xs i) else none) else none := by
 simp only [backN, Option.bind_some]
 split
 ·simp only [Obj.setIn]
  split
  ·cases unflat t ((flat t (xs.getD i t.zero)).set off (.d (.slice t'') zs)) with
   | none => rfl
   | some y => simp only [Option.bind_some, oneOnly]; split <;> rfl
  ·rfl
 ·rfl
theorem backObjs_nil (f : AV → AV) (h' : Heap) (k : Nat) : backObjs f h h' k [] = some [] := rfl
def backObjs2 (f : AV → AV) (h h' : Heap) (k id : Nat) (ls : List Ln) (o : Obj) : Option (List (Nat × Obj)) := (backObjs f h h' (k + 1) ls).map (List.cons (id, o))
theorem backObjs2_eq (f : AV → AV) (h' : Heap) (k id : Nat) (ls : List Ln) (o : Obj) : backObjs2 f h h' k id ls o = (backObjs f h h' (k + 1) ls).map (List.cons (id, o)) := rfl
theorem backObjs_cons (f : AV → AV) (h' : Heap) (k : Nat) (l : Ln) (ls : List Ln) : backObjs f h h' k (l :: ls) = (backObj f h h' k l).bind (backObjs2 f h h' k l.id ls) := rfl
theorem newObjs_nil (f : AV → AV) (h' : Heap) (k : Nat) : newObjs f h' k [] = [] := rfl
theorem newObjs_cons (f : AV → AV) (h' : Heap) (k j : Nat) (js : List Nat) : newObjs f h' k (j :: js) = (k, ((h'.get j).getD .dead).mapR f) :: newObjs f h' (k + 1) js := rfl
def movedT (h' : Heap) (k id : Nat) (ls : List Ln) : Option Obj → List Nat
 | some (.arr false _ _ _) => movedIds h' (k + 1) ls
 | _ => id :: movedIds h' (k + 1) ls
theorem moved_nil (h' : Heap) (k : Nat) : movedIds h' k [] = [] := rfl
theorem moved_t (h' : Heap) (k id : Nat) (ls : List Ln) : movedIds h' k (.a (.t id) :: ls) = movedT h' k id ls (h'.get k) := by
 simp only [movedIds, movedT]
 cases h'.get k with
 | none => rfl
 | some o =>
  cases o with
  | arr m d t xs => cases m <;> rfl
  | _ => rfl
theorem moved_n (h' : Heap) (k id i o : Nat) (ls : List Ln) : movedIds h' k (.a (.n id i o) :: ls) = movedIds h' (k + 1) ls := rfl
theorem moved_b (h' : Heap) (k id : Nat) (ls : List Ln) : movedIds h' k (.b id :: ls) = movedIds h' (k + 1) ls := rfl
theorem movedT_still (h' : Heap) (k id : Nat) (ls : List Ln) (d : Bool) (t : Ty) (xs : List t.Den) : movedT h' k id ls (some (.arr false d t xs)) = movedIds h' (k + 1) ls := rfl
theorem movedT_moved (h' : Heap) (k id : Nat) (ls : List Ln) (d : Bool) (t : Ty) (xs : List t.Den) : movedT h' k id ls (some (.arr true d t xs)) = id :: movedIds h' (k + 1) ls := rfl
theorem movedT_dead (h' : Heap) (k id : Nat) (ls : List Ln) : movedT h' k id ls (some .dead) = id :: movedIds h' (k + 1) ls := rfl
theorem whole_nil : wholeIds [] = [] := rfl
theorem whole_t (id : Nat) (ls : List Ln) : wholeIds (.a (.t id) :: ls) = id :: wholeIds ls := rfl
theorem whole_n (id i o : Nat) (ls : List Ln) : wholeIds (.a (.n id i o) :: ls) = wholeIds ls := rfl
theorem whole_b (id : Nat) (ls : List Ln) : wholeIds (.b id :: ls) = id :: wholeIds ls := rfl
theorem upTo_zero (k : Nat) : upTo k 0 = [] := rfl
theorem upTo_succ (k n : Nat) : upTo k (n + 1) = k :: upTo (k + 1) n := rfl
theorem puts_nil : Heap.puts h [] = h := by cases h <;> rfl
theorem puts_cons (i : Nat) (o : Obj) (l : List (Nat × Obj)) : Heap.puts h ((i, o) :: l) = Heap.puts (h.put i o) l := by cases h <;> rfl
def back3 (base : Nat) (s : Slots) (h : Heap) (ls : List Ln) (v : AV) (h' : Heap) (ns lost whole : List Nat) (us : List (Nat × Obj)) : Option (AV × St) :=
 some (v.mapR (backF base ls ns), ⟨Slots.mapR (lostF lost whole) s, ((Heap.mapR (lostF lost whole) (h.bury ls)).puts us).puts (newObjs (backF base ls ns) h' base ns)⟩)
theorem back3_eq (base : Nat) (ls : List Ln) (v : AV) (h' : Heap) (ns lost whole : List Nat) (us : List (Nat × Obj)) : back3 base s h ls v h' ns lost whole us = some (v.mapR (backF base ls ns), ⟨Slots.mapR (lostF lost whole) s, ((Heap.mapR (lostF lost whole) (h.bury ls)).puts us).puts (newObjs (backF base ls ns) h' base ns)⟩) := rfl
def back2 (base : Nat) (s : Slots) (h : Heap) (ls : List Ln) (v : AV) (h' : Heap) (ns : List Nat) : Option (AV × St) :=
 if ns.length ≤ 32 ∧ base + 32 ≤ lentFrom ∧ nodupN ns = true ∧ ls.all (fun l => decide (l.id < base ∨ base + 32 ≤ l.id)) = true then
  (backObjs (backF base ls ns) h h' lentFrom ls).bind (back3 base s h ls v h' ns (movedIds h' lentFrom ls ++ upTo base ns.length) (wholeIds ls)) else none
def apartL (base : Nat) : List Ln → Bool
 | [] => true
 | l :: ls => decide (l.id < base ∨ base + 32 ≤ l.id) && apartL base ls
theorem apartL_nil (base : Nat) : apartL base [] = true := rfl
theorem apartL_cons (base : Nat) (l : Ln) (ls : List Ln) : apartL base (l :: ls) = (decide (l.id < base ∨ base + 32 ≤ l.id) && apartL base ls) := rfl
theorem apartL_all (base : Nat) : ∀ ls : List Ln, ls.all (fun l => decide (l.id < base ∨ base + 32 ≤ l.id)) = apartL base ls
 | [] => rfl
 | l :: ls => by rw [List.all_cons, apartL_cons, apartL_all base ls]
theorem back2_eq (base : Nat) (ls : List Ln) (v : AV) (h' : Heap) (ns : List Nat) : back2 base s h ls v h' ns = if ns.length ≤ 32 ∧ base + 32 ≤ lentFrom ∧ nodupN ns = true ∧ apartL base ls = true then
  (backObjs (backF base ls ns) h h' lentFrom ls).bind (back3 base s h ls v h' ns (movedIds h' lentFrom ls ++ upTo base ns.length) (wholeIds ls)) else none := by
 unfold back2; rw [apartL_all]
theorem back_eq (base : Nat) (ls : List Ln) (v : AV) (h' : Heap) : back ⟨s, h⟩ base ls (v, h') = back2 base s h ls v h' (newIds h') := rfl

def apTo (id : Nat) (t : Ty) (bytes : Nat) (s : Slots) (h : Heap) (x : AV) (ys : List t.Den) : Option (AV × St) := appendTo ⟨s, h⟩ id t bytes ys x
theorem apTo_eq (id : Nat) (t : Ty) (bytes : Nat) (x : AV) (ys : List t.Den) : apTo id t bytes s h x ys = appendTo ⟨s, h⟩ id t bytes ys x := rfl
def elseR (f : Option (AV × St)) : Option (AV × St) → Option (AV × St)
 | some r => some r
 | none => f
theorem elseR_some (f : Option (AV × St)) (r : AV × St) : elseR f (some r) = some r := rfl
def apRest (s : Slots) (h : Heap) (id : Nat) (t : Ty) (bytes : Nat) (x y : AV) : Option (AV × St) :=
 let st1 := freezeInOf ⟨s, h⟩ x
 let st2 := freezeInOf st1 (frozenInOf ⟨s, h⟩ x y)
 let y2 := frozenInOf st1 (frozenInOf ⟨s, h⟩ x y) (frozenInOf ⟨s, h⟩ x y)
 let s2 := frozenInOf st1 (frozenInOf ⟨s, h⟩ x y) (frozenInOf ⟨s, h⟩ x x)
 (listOf st2.heap t y2).bind fun ys => appendTo st2 id t bytes ys s2
def apDeep (s : Slots) (h : Heap) (id : Nat) (t : Ty) (bytes : Nat) (x y : AV) : Option (AV × St) → Option (AV × St)
 | some r => some r
 | none => apRest s h id t bytes x y
theorem apDeep_some (id : Nat) (t : Ty) (bytes : Nat) (x y : AV) (r : AV × St) : apDeep s h id t bytes x y (some r) = some r := rfl
theorem apDeep_none (id : Nat) (t : Ty) (bytes : Nat) (x y : AV) : apDeep s h id t bytes x y none = apRest s h id t bytes x y := rfl
def apTy (s : Slots) (h : Heap) (id bytes : Nat) (x y : AV) (t : Ty) : Option (AV × St) :=
 if t.refs = true then apDeep s h id t bytes x y (appendDeep ⟨s, h⟩ id t bytes x y) else (listOf h t y).bind (apTo id t bytes s h x)
theorem apTy_eq (id bytes : Nat) (x y : AV) (t : Ty) : apTy s h id bytes x y t = if t.refs = true then apDeep s h id t bytes x y (appendDeep ⟨s, h⟩ id t bytes x y) else (listOf h t y).bind (apTo id t bytes s h x) := rfl
def apEl (E : Env) (e : Nat) (s : Slots) (h : Heap) (id : Nat) (x y : AV) (te : TI) : Option (AV × St) := (E.ty e).bind (apTy s h id te.bytes x y)
theorem apEl_mk (e : Nat) (id : Nat) (x y : AV) (td : TD) (n m : Nat) : apEl E e s h id x y ⟨td, n, m⟩ = (E.ty e).bind (apTy s h id m x y) := rfl
def apStr (s : Slots) (h : Heap) (id bytes : Nat) (x y : AV) (t : Ty) : Option (AV × St) := match t, y with
   | .int .u8, .d .str b => appendTo ⟨s, h⟩ id (.int .u8) bytes (bytesL b) x
   | _, _ => none
def apElS (E : Env) (e : Nat) (s : Slots) (h : Heap) (id : Nat) (x y : AV) (te : TI) : Option (AV × St) := (E.ty e).bind (apStr s h id te.bytes x y)
theorem apElS_mk (e : Nat) (id : Nat) (x y : AV) (td : TD) (n m : Nat) : apElS E e s h id x y ⟨td, n, m⟩ = (E.ty e).bind (apStr s h id m x y) := rfl
def ap2 (E : Env) (s : Slots) (h : Heap) (id : Nat) (x y : AV) (ti ti2 : TI) : Option (AV × St) := match ti.desc, ti2.desc with
  | .slice e, .slice _ => (E.tab e).bind (apEl E e s h id x y)
  | .slice e, .str => (E.tab e).bind (apElS E e s h id x y)
  | _, _ => none
def ap1 (E : Env) (s : Slots) (h : Heap) (id T2 : Nat) (x y : AV) (ti : TI) : Option (AV × St) := (E.tab T2).bind (ap2 E s h id x y ti)
theorem ap1_mk (id T2 : Nat) (x y : AV) (ti : TI) : ap1 E s h id T2 x y ti = (E.tab T2).bind (ap2 E s h id x y ti) := rfl
theorem ap2_sl (id : Nat) (x y : AV) (e e2 n m n2 m2 : Nat) : ap2 E s h id x y ⟨.slice e, n, m⟩ ⟨.slice e2, n2, m2⟩ = (E.tab e).bind (apEl E e s h id x y) := rfl
theorem ap2_str (id : Nat) (x y : AV) (e n m n2 m2 : Nat) : ap2 E s h id x y ⟨.slice e, n, m⟩ ⟨.str, n2, m2⟩ = (E.tab e).bind (apElS E e s h id x y) := rfl
theorem append_eq (id T T2 : Nat) (x y : AV) : append E ⟨s, h⟩ id T T2 x y = (E.tab T).bind (ap1 E s h id T2 x y) := by
 unfold append
 congr 1
def apO (s : Slots) (h : Heap) (i : Nat) (t : Ty) (bytes : Nat) (ys : List t.Den) (xs : List t.Den) : Option (AV × St) := if roomFor (List.length xs + ys.length) bytes = true then some (.os (.t i), ⟨Slots.mapR (killF i) s, (Heap.mapR (killF i) h).put i (.arr true false t (xs ++ ys))⟩) else none
theorem apO_eq (i : Nat) (t : Ty) (bytes : Nat) (ys xs : List t.Den) : apO s h i t bytes ys xs = if roomFor (List.length xs + ys.length) bytes = true then some (.os (.t i), ⟨Slots.mapR (killF i) s, (Heap.mapR (killF i) h).put i (.arr true false t (xs ++ ys))⟩) else none := rfl
def apOs (s : Slots) (h : Heap) (i : Nat) (t : Ty) (bytes : Nat) (ys : List t.Den) : Option Obj → Option (AV × St)
 | some (.arr _ false t' xs) => (asDen (.slice t) (.d (.slice t') xs)).bind (apO s h i t bytes ys)
 | _ => none
theorem apOs_arr (i : Nat) (t : Ty) (bytes : Nat) (ys : List t.Den) (m : Bool) (t' : Ty) (xs : List t'.Den) : apOs s h i t bytes ys (some (.arr m false t' xs)) = (asDen (.slice t) (.d (.slice t') xs)).bind (apO s h i t bytes ys) := rfl
theorem appendTo_os (id : Nat) (t : Ty) (bytes : Nat) (ys : List t.Den) (i : Nat) : appendTo ⟨s, h⟩ id t bytes ys (.os (.t i)) = apOs s h i t bytes ys (h.get i) := by
 simp only [appendTo, apOs]
 cases h.get i with
 | none => rfl
 | some o =>
  cases o with
  | arr m d t' xs => cases d <;> rfl
  | _ => rfl
theorem appendTo_nil (id : Nat) (t : Ty) (bytes : Nat) (ys : List t.Den) : appendTo ⟨s, h⟩ id t bytes ys .nilS = if roomFor ys.length bytes = true then some (.os (.t id), St.alloc ⟨s, h⟩ id (.arr true false t ys)) else none := rfl
theorem appendTo_emp (id : Nat) (t : Ty) (bytes : Nat) (ys : List t.Den) : appendTo ⟨s, h⟩ id t bytes ys .empS = if roomFor ys.length bytes = true then some (.os (.t id), St.alloc ⟨s, h⟩ id (.arr true false t ys)) else none := rfl
def mkSt0 (s : Slots) (v : AV) (h : Heap) : AV × St := (v, ⟨s, h⟩)
theorem mkSt0_eq (v : AV) : mkSt0 s v h = (v, ⟨s, h⟩) := rfl
def apS (s : Slots) (h : Heap) (i a n : Nat) (t : Ty) (bytes : Nat) (ys : List t.Den) (xs : List t.Den) : Option (AV × St) :=
 if a + n + ys.length ≤ List.length xs then (h.setAt t (List.take (a + n) xs ++ ys ++ List.drop (a + n + ys.length) xs) (.t i)).map (mkSt0 s (.sub (.t i) a (n + ys.length)))
    else if roomFor (n + ys.length) bytes = true then some (.os (.t i), ⟨Slots.mapR (killF i) s, (Heap.mapR (killF i) h).put i (.arr true false t ((List.drop a xs).take n ++ ys))⟩) else none
theorem apS_eq (i a n : Nat) (t : Ty) (bytes : Nat) (ys xs : List t.Den) : apS s h i a n t bytes ys xs = if a + n + ys.length ≤ List.length xs then (h.setAt t (List.take (a + n) xs ++ ys ++ List.drop (a + n + ys.length) xs) (.t i)).map (mkSt0 s (.sub (.t i) a (n + ys.length)))
    else if roomFor (n + ys.length) bytes = true then some (.os (.t i), ⟨Slots.mapR (killF i) s, (Heap.mapR (killF i) h).put i (.arr true false t ((List.drop a xs).take n ++ ys))⟩) else none := rfl
def apSub (s : Slots) (h : Heap) (i a n : Nat) (t : Ty) (bytes : Nat) (ys : List t.Den) : Option Obj → Option (AV × St)
 | some (.arr _ false t' xs) => (asDen (.slice t) (.d (.slice t') xs)).bind (apS s h i a n t bytes ys)
 | _ => none
theorem apSub_arr (i a n : Nat) (t : Ty) (bytes : Nat) (ys : List t.Den) (m : Bool) (t' : Ty) (xs : List t'.Den) : apSub s h i a n t bytes ys (some (.arr m false t' xs)) = (asDen (.slice t) (.d (.slice t') xs)).bind (apS s h i a n t bytes ys) := rfl
theorem appendTo_sub (id : Nat) (t : Ty) (bytes : Nat) (ys : List t.Den) (i a n : Nat) : appendTo ⟨s, h⟩ id t bytes ys (.sub (.t i) a n) = apSub s h i a n t bytes ys (h.get i) := by
 simp only [appendTo, apSub]
 cases h.get i with
 | none => rfl
 | some o =>
  cases o with
  | arr m d t' xs => cases d <;> rfl
  | _ => rfl
def apD2 (s : Slots) (h : Heap) (id j : Nat) (t : Ty) (bytes : Nat) (ys : List t.Den) : AV → Option (AV × St)
 | .nilS => if roomFor (List.length ys) bytes = true then some (.os (.t id), (St.gone ⟨s, h⟩ [j]).alloc id (.arr true true t ys)) else none
 | .empS => if roomFor (List.length ys) bytes = true then some (.os (.t id), (St.gone ⟨s, h⟩ [j]).alloc id (.arr true true t ys)) else none
 | .os (.t i) => match h.get i with
  | some (.arr _ true t' xs) => if i = j then none else (asDen (.slice t) (.d (.slice t') xs)).bind fun xs =>
    if roomFor (List.length xs + List.length ys) bytes = true then some (.os (.t i), ⟨((St.gone ⟨s, h⟩ [j]).kill i).tmps, ((St.gone ⟨s, h⟩ [j]).kill i).heap.put i (.arr true true t (xs ++ ys))⟩) else none
  | _ => none
 | _ => none
def apD3 (id j : Nat) (t : Ty) (bytes : Nat) (s : Slots) (h : Heap) (x : AV) (ys : List t.Den) : Option (AV × St) := apD2 s h id j t bytes ys x
theorem apD3_eq (id j : Nat) (t : Ty) (bytes : Nat) (x : AV) (ys : List t.Den) : apD3 id j t bytes s h x ys = apD2 s h id j t bytes ys x := rfl
def apD1 (s : Slots) (h : Heap) (id j : Nat) (t : Ty) (bytes : Nat) (x : AV) : Option Obj → Option (AV × St)
 | some (.arr _ true ty ys) => (asDen (.slice t) (.d (.slice ty) ys)).bind (apD3 id j t bytes s h x)
 | _ => none
theorem apD1_deep (id j : Nat) (t : Ty) (bytes : Nat) (x : AV) (m : Bool) (ty : Ty) (ys : List ty.Den) : apD1 s h id j t bytes x (some (.arr m true ty ys)) = (asDen (.slice t) (.d (.slice ty) ys)).bind (apD3 id j t bytes s h x) := rfl
theorem apD1_flat (id j : Nat) (t : Ty) (bytes : Nat) (x : AV) (m : Bool) (ty : Ty) (ys : List ty.Den) : apD1 s h id j t bytes x (some (.arr m false ty ys)) = none := rfl
theorem appendDeep_os (id : Nat) (t : Ty) (bytes : Nat) (x : AV) (j : Nat) : appendDeep ⟨s, h⟩ id t bytes x (.os (.t j)) = apD1 s h id j t bytes x (h.get j) := by
 simp only [appendDeep, apD1]
 cases h.get j with
 | none => rfl
 | some o =>
  cases o with
  | arr m d ty ys =>
   cases d with
   | false => rfl
   | true =>
    simp only
    congr 1
  | _ => rfl
theorem appendDeep_d (id : Nat) (t : Ty) (bytes : Nat) (x : AV) (t' : Ty) (y : t'.Den) : appendDeep ⟨s, h⟩ id t bytes x (.d t' y) = none := rfl
theorem appendDeep_sub (id : Nat) (t : Ty) (bytes : Nat) (x : AV) (p : Pl) (a n : Nat) : appendDeep ⟨s, h⟩ id t bytes x (.sub p a n) = none := rfl
theorem appendDeep_nil (id : Nat) (t : Ty) (bytes : Nat) (x : AV) : appendDeep ⟨s, h⟩ id t bytes x .nilS = none := rfl
theorem appendDeep_emp (id : Nat) (t : Ty) (bytes : Nat) (x : AV) : appendDeep ⟨s, h⟩ id t bytes x .empS = none := rfl
theorem apD2_nil (id j : Nat) (t : Ty) (bytes : Nat) (ys : List t.Den) : apD2 s h id j t bytes ys .nilS = if roomFor (List.length ys) bytes = true then some (.os (.t id), (St.gone ⟨s, h⟩ [j]).alloc id (.arr true true t ys)) else none := rfl
theorem apD2_emp (id j : Nat) (t : Ty) (bytes : Nat) (ys : List t.Den) : apD2 s h id j t bytes ys .empS = if roomFor (List.length ys) bytes = true then some (.os (.t id), (St.gone ⟨s, h⟩ [j]).alloc id (.arr true true t ys)) else none := rfl
def apD5 (s : Slots) (h : Heap) (i j : Nat) (t : Ty) (bytes : Nat) (ys xs : List t.Den) : Option (AV × St) := if roomFor (List.length xs + List.length ys) bytes = true then some (.os (.t i), ⟨((St.gone ⟨s, h⟩ [j]).kill i).tmps, ((St.gone ⟨s, h⟩ [j]).kill i).heap.put i (.arr true true t (xs ++ ys))⟩) else none
theorem apD5_eq (i j : Nat) (t : Ty) (bytes : Nat) (ys xs : List t.Den) : apD5 s h i j t bytes ys xs = if roomFor (List.length xs + List.length ys) bytes = true then some (.os (.t i), ⟨((St.gone ⟨s, h⟩ [j]).kill i).tmps, ((St.gone ⟨s, h⟩ [j]).kill i).heap.put i (.arr true true t (xs ++ ys))⟩) else none := rfl
def apD4 (s : Slots) (h : Heap) (i j : Nat) (t : Ty) (bytes : Nat) (ys : List t.Den) : Option Obj → Option (AV × St)
 | some (.arr _ true t' xs) => if i = j then none else (asDen (.slice t) (.d (.slice t') xs)).bind (apD5 s h i j t bytes ys)
 | _ => none
theorem apD4_deep (i j : Nat) (t : Ty) (bytes : Nat) (ys : List t.Den) (m : Bool) (t' : Ty) (xs : List t'.Den) : apD4 s h i j t bytes ys (some (.arr m true t' xs)) = if i = j then none else (asDen (.slice t) (.d (.slice t') xs)).bind (apD5 s h i j t bytes ys) := rfl
theorem apD4_flat (i j : Nat) (t : Ty) (bytes : Nat) (ys : List t.Den) (m : Bool) (t' : Ty) (xs : List t'.Den) : apD4 s h i j t bytes ys (some (.arr m false t' xs)) = none := rfl
theorem apD2_os (id j : Nat) (t : Ty) (bytes : Nat) (ys : List t.Den) (i : Nat) : apD2 s h id j t bytes ys (.os (.t i)) = apD4 s h i j t bytes ys (h.get i) := by
 simp only [apD2, apD4]
 cases h.get i with
 | none => rfl
 | some o =>
  cases o with
  | arr m d t' xs => cases d <;> rfl
  | _ => rfl
theorem apD2_d (id j : Nat) (t : Ty) (bytes : Nat) (ys : List t.Den) (t' : Ty) (x : t'.Den) : apD2 s h id j t bytes ys (.d t' x) = none := rfl
theorem lsl_os (t : Ty) (p : Pl) : listOf h t (.os p) = if h.deepAt p = true ∧ t.refs = true then none else (h.arrAt p).bind (asDen (.slice t)) := rfl
theorem lsl_d (t : Ty) (x : List t.Den) : listOf h t (.d (.slice t) x) = some x := asList_self t x
def cpTo (s : Slots) (h : Heap) (x : AV) (t : Ty) (ys : List t.Den) : Option (AV × St) := copyTo ⟨s, h⟩ t ys x
def cpTy (s : Slots) (h : Heap) (x y : AV) (t : Ty) : Option (AV × St) := if t.refs = true then none else (listOf h t y).bind (cpTo s h x t)
def cpStr (s : Slots) (h : Heap) (x y : AV) (t : Ty) : Option (AV × St) := match t, y with
   | .int .u8, .d .str b => copyTo ⟨s, h⟩ (.int .u8) (bytesL b) x
   | _, _ => none
def cp2 (E : Env) (s : Slots) (h : Heap) (x y : AV) (ti ti2 : TI) : Option (AV × St) := match ti.desc, ti2.desc with
  | .slice e, .slice _ => (E.ty e).bind (cpTy s h x y)
  | .slice e, .str => (E.ty e).bind (cpStr s h x y)
  | _, _ => none
theorem cp2_sl (x y : AV) (e e2 n m n2 m2 : Nat) : cp2 E s h x y ⟨.slice e, n, m⟩ ⟨.slice e2, n2, m2⟩ = (E.ty e).bind (cpTy s h x y) := rfl
theorem cp2_str (x y : AV) (e n m n2 m2 : Nat) : cp2 E s h x y ⟨.slice e, n, m⟩ ⟨.str, n2, m2⟩ = (E.ty e).bind (cpStr s h x y) := rfl
def cp1 (E : Env) (s : Slots) (h : Heap) (T2 : Nat) (x y : AV) (ti : TI) : Option (AV × St) := (E.tab T2).bind (cp2 E s h x y ti)
theorem cp1_eq (T2 : Nat) (x y : AV) (ti : TI) : cp1 E s h T2 x y ti = (E.tab T2).bind (cp2 E s h x y ti) := rfl
def mkSt (s : Slots) (v : AV) (h : Heap) : AV × St := (v, ⟨s, h⟩)
theorem mkSt_eq (v : AV) : mkSt s v h = (v, ⟨s, h⟩) := rfl
def clOs (s : Slots) (h : Heap) (p : Pl) (t : Ty) (xs : List t.Den) : Option (AV × St) := (h.setAt t (copyIn xs (List.replicate (List.length xs) t.zero) 0 (List.length xs)) p).map (mkSt s (.tuple []))
def clSub (s : Slots) (h : Heap) (p : Pl) (a n : Nat) (t : Ty) (xs : List t.Den) : Option (AV × St) := (h.setAt t (copyIn xs (List.replicate n t.zero) a n) p).map (mkSt s (.tuple []))
theorem clSub_eq (p : Pl) (a n : Nat) (t : Ty) (xs : List t.Den) : clSub s h p a n t xs = (h.setAt t (copyIn xs (List.replicate n t.zero) a n) p).map (mkSt s (.tuple [])) := rfl
def clTy (s : Slots) (h : Heap) (x : AV) (t : Ty) : Option (AV × St) := match x with
   | .nilS => some (.tuple [], ⟨s, h⟩)
   | .empS => some (.tuple [], ⟨s, h⟩)
   | .os p => if h.deepAt p = true ∧ t.refs = true then none else (listOf h t (.os p)).bind (clOs s h p t)
   | .sub p a n => if h.deepAt p = true ∧ t.refs = true then none else (listOf h t (.os p)).bind (clSub s h p a n t)
   | _ => none
theorem clTy_sub (p : Pl) (a n : Nat) (t : Ty) : clTy s h (.sub p a n) t = if h.deepAt p = true ∧ t.refs = true then none else (listOf h t (.os p)).bind (clSub s h p a n t) := rfl
def clTI (E : Env) (s : Slots) (h : Heap) (x : AV) (ti : TI) : Option (AV × St) := match ti.desc with
  | .slice e => (E.ty e).bind (clTy s h x)
  | _ => none
theorem clTI_slice (x : AV) (e n m : Nat) : clTI E s h x ⟨.slice e, n, m⟩ = (E.ty e).bind (clTy s h x) := rfl
theorem clear_eq (T : Nat) (x : AV) : clear E ⟨s, h⟩ T x = (E.tab T).bind (clTI E s h x) := rfl
def mkAgg (vs : List AV) : AV := .agg vs
theorem mkAgg_eq (vs : List AV) : mkAgg vs = .agg vs := rfl
def bdFill (acc : List AV) (o : Nat) (v : AV) (tf : TI) : Option (List AV) := if v.isUndef = false ∧ v.cells.length = tf.size then fillAt acc o v.cells else none
theorem bdFill_mk (acc : List AV) (o : Nat) (v : AV) (td : TD) (n m : Nat) : bdFill acc o v ⟨td, n, m⟩ = if v.isUndef = false ∧ v.cells.length = n then fillAt acc o v.cells else none := rfl
def bdF2 (E : Env) (acc : List AV) (v : AV) (f : Nat × Nat) : Option (List AV) := (E.tab f.2).bind (bdFill acc f.1 v)
theorem bdF2_mk (acc : List AV) (v : AV) (o T : Nat) : bdF2 E acc v (o, T) = (E.tab T).bind (bdFill acc o v) := rfl
def bdFold (E : Env) (fs : List (Nat × Nat)) : List (Nat × AV) → List AV → Option (List AV)
 | [], acc => some acc
 | (j, v) :: ps, acc => ((fs[j]?).bind (bdF2 E acc v)).bind (bdFold E fs ps)
theorem bdFold_nil (fs : List (Nat × Nat)) (acc : List AV) : bdFold E fs [] acc = some acc := rfl
theorem bdFold_cons (fs : List (Nat × Nat)) (j : Nat) (v : AV) (ps : List (Nat × AV)) (acc : List AV) : bdFold E fs ((j, v) :: ps) acc = ((fs[j]?).bind (bdF2 E acc v)).bind (bdFold E fs ps) := rfl
def bdArr (tes : TI) : List (Nat × AV) → List AV → Option (List AV)
 | [], acc => some acc
 | (j, v) :: ps, acc => (bdFill acc (j * tes.size) v tes).bind (bdArr tes ps)
theorem bdArr_nil (te : TI) (acc : List AV) : bdArr te [] acc = some acc := rfl
theorem bdArr_cons (td : TD) (n m : Nat) (j : Nat) (v : AV) (ps : List (Nat × AV)) (acc : List AV) : bdArr ⟨td, n, m⟩ ((j, v) :: ps) acc = (bdFill acc (j * n) v ⟨td, n, m⟩).bind (bdArr ⟨td, n, m⟩ ps) := rfl
def bdArr2 (E : Env) (T : Nat) (ps : List (Nat × AV)) (te : TI) : Option AV := ((zeros E.tab 8 T).bind (bdArr te ps)).map mkAgg
theorem bdArr2_eq (T : Nat) (ps : List (Nat × AV)) (te : TI) : bdArr2 E T ps te = ((zeros E.tab 8 T).bind (bdArr te ps)).map mkAgg := rfl
def bdTI (E : Env) (T : Nat) (ps : List (Nat × AV)) (ti : TI) : Option AV := match ti.desc with
  | .struct fs => ((zeros E.tab 8 T).bind (bdFold E fs ps)).map mkAgg
  | .arr _ e => (E.tab e).bind (bdArr2 E T ps)
  | _ => none
theorem bdTI_struct (T : Nat) (ps : List (Nat × AV)) (fs : List (Nat × Nat)) (n m : Nat) : bdTI E T ps ⟨.struct fs, n, m⟩ = ((zeros E.tab 8 T).bind (bdFold E fs ps)).map mkAgg := rfl
theorem bdTI_arr (T : Nat) (ps : List (Nat × AV)) (l e : Nat) (n m : Nat) : bdTI E T ps ⟨.arr l e, n, m⟩ = (E.tab e).bind (bdArr2 E T ps) := rfl
theorem build_eq (T : Nat) (ps : List (Nat × AV)) : build E T ps = (E.tab T).bind (bdTI E T ps) := by
 unfold build
 congr 1; funext ti
 unfold bdTI
 cases ti.desc with
 | struct fs =>
  simp only
  cases zeros E.tab 8 T with
  | none => rfl
  | some z =>
   simp only [Option.bind_some]
   have : ∀ (ps : List (Nat × AV)) (acc : List AV), ps.foldlM (fun acc p => (fs[p.1]?).bind fun f => (E.tab f.2).bind fun tf => if p.2.isUndef = false ∧ p.2.cells.length = tf.size then fillAt acc f.1 p.2.cells else none) acc = bdFold E fs ps acc := by
    intro ps
    induction ps with
    | nil => intro acc; rfl
    | cons p ps ih =>
     intro acc
     obtain ⟨j, v⟩ := p
     rw [List.foldlM_cons, bdFold_cons]
     show Option.bind _ _ = _
     have : (fun acc => ps.foldlM (fun acc p => (fs[p.1]?).bind fun f => (E.tab f.2).bind fun tf => if p.2.isUndef = false ∧ p.2.cells.length = tf.size then fillAt acc f.1 p.2.cells else none) acc) = bdFold E fs ps := funext ih
     rw [← this]; rfl
   rw [this]; rfl
 | arr l e =>
  simp only
  congr 1; funext te
  unfold bdArr2
  cases zeros E.tab 8 T with
  | none => rfl
  | some z =>
   simp only [Option.bind_some]
   have : ∀ (ps : List (Nat × AV)) (acc : List AV), ps.foldlM (fun acc p => if p.2.isUndef = false ∧ p.2.cells.length = te.size then fillAt acc (p.1 * te.size) p.2.cells else none) acc = bdArr te ps acc := by
    intro ps
    induction ps with
    | nil => intro acc; rfl
    | cons p ps ih =>
     intro acc
     obtain ⟨j, v⟩ := p
     rw [List.foldlM_cons]
     show Option.bind _ _ = Option.bind _ _
     have : (fun acc => ps.foldlM (fun acc p => if p.2.isUndef = false ∧ p.2.cells.length = te.size then fillAt acc (p.1 * te.size) p.2.cells else none) acc) = bdArr te ps := funext ih
     rw [← this]; rfl
   rw [this]; rfl
 | _ => rfl
def zFold (tab : Nat → Option TI) (n : Nat) : List (Nat × Nat) → List AV → Option (List AV)
 | [], acc => some acc
 | (_, T) :: fs, acc => ((zeros tab n T).map (acc ++ ·)).bind (zFold tab n fs)
theorem zFold_nil (tab : Nat → Option TI) (n : Nat) (acc : List AV) : zFold tab n [] acc = some acc := rfl
def appL (acc z : List AV) : List AV := acc ++ z
theorem appL_eq (acc z : List AV) : appL acc z = acc ++ z := rfl
theorem zFold_cons (tab : Nat → Option TI) (n o T : Nat) (fs : List (Nat × Nat)) (acc : List AV) : zFold tab n ((o, T) :: fs) acc = ((zeros tab n T).map (appL acc)).bind (zFold tab n fs) := rfl
def repZ (m : Nat) (z : List AV) : List AV := (List.replicate m z).flatten
theorem repZ_zero (z : List AV) : repZ 0 z = [] := rfl
theorem repZ_succ (m : Nat) (z : List AV) : repZ (m + 1) z = z ++ repZ m z := by unfold repZ; rw [List.replicate_succ, List.flatten_cons]
def zTI (tab : Nat → Option TI) (n : Nat) (ti : TI) : Option (List AV) := match ti.desc with
  | .bool => some [.d .bool false]
  | .int k => some [.d (.int k) (0 : Int)]
  | .str => some [.d .str ByteArray.empty]
  | .err => some [.d .err false]
  | .slice _ => some [.nilS]
  | .ptr _ => some [.nilP]
  | .func => some [.nilF]
  | .map _ _ => some [.nilM]
  | .struct fs => zFold tab n fs []
  | .arr m e => (zeros tab n e).map (repZ m)
  | .other => none
theorem zeros_eq (tab : Nat → Option TI) (n T : Nat) : zeros tab (n + 1) T = (tab T).bind (zTI tab n) := by
 unfold zeros
 congr 1; funext ti
 unfold zTI
 cases ti.desc with
 | struct fs =>
  simp only
  have : ∀ (fs : List (Nat × Nat)) (acc : List AV), fs.foldlM (fun acc f => (zeros tab n f.2).map (acc ++ ·)) acc = zFold tab n fs acc := by
   intro fs
   induction fs with
   | nil => intro acc; rfl
   | cons f fs ih =>
    intro acc
    rw [List.foldlM_cons]
    show Option.bind _ _ = Option.bind _ _
    have : (fun acc => fs.foldlM (fun acc f => (zeros tab n f.2).map (acc ++ ·)) acc) = zFold tab n fs := funext ih
    rw [← this]
  exact this fs []
 | arr m e => rfl
 | _ => rfl
theorem zTI_bool (tab : Nat → Option TI) (n a b : Nat) : zTI tab n ⟨.bool, a, b⟩ = some [.d .bool false] := rfl
theorem zTI_int (tab : Nat → Option TI) (n a b : Nat) (k : IntKind) : zTI tab n ⟨.int k, a, b⟩ = some [.d (.int k) (0 : Int)] := rfl
theorem zTI_str (tab : Nat → Option TI) (n a b : Nat) : zTI tab n ⟨.str, a, b⟩ = some [.d .str ByteArray.empty] := rfl
theorem zTI_err (tab : Nat → Option TI) (n a b : Nat) : zTI tab n ⟨.err, a, b⟩ = some [.d .err false] := rfl
theorem zTI_slice (tab : Nat → Option TI) (n a b e : Nat) : zTI tab n ⟨.slice e, a, b⟩ = some [.nilS] := rfl
theorem zTI_ptr (tab : Nat → Option TI) (n a b e : Nat) : zTI tab n ⟨.ptr e, a, b⟩ = some [.nilP] := rfl
theorem zTI_func (tab : Nat → Option TI) (n a b : Nat) : zTI tab n ⟨.func, a, b⟩ = some [.nilF] := rfl
theorem zTI_map (tab : Nat → Option TI) (n a b k e : Nat) : zTI tab n ⟨.map k e, a, b⟩ = some [.nilM] := rfl
theorem zTI_struct (tab : Nat → Option TI) (n a b : Nat) (fs : List (Nat × Nat)) : zTI tab n ⟨.struct fs, a, b⟩ = zFold tab n fs [] := rfl
theorem zTI_arr (tab : Nat → Option TI) (n a b m e : Nat) : zTI tab n ⟨.arr m e, a, b⟩ = (zeros tab n e).map (repZ m) := rfl
theorem fillAt_eq (cells : List AV) (off : Nat) (vs : List AV) : fillAt cells off vs = if off + vs.length ≤ cells.length then some (cells.take off ++ vs ++ cells.drop (off + vs.length)) else none := rfl
def okPart (n : Nat) : List (Nat × AV) → Bool
 | [] => true
 | (_, v) :: ps => (v.cells.length == n && !v.isUndef) && okPart n ps
theorem okPart_nil (n : Nat) : okPart n [] = true := rfl
theorem okPart_cons (n j : Nat) (v : AV) (ps : List (Nat × AV)) : okPart n ((j, v) :: ps) = ((v.cells.length == n && !v.isUndef) && okPart n ps) := rfl
def partCells : List (Nat × AV) → List AV
 | [] => []
 | (_, v) :: ps => v.cells ++ partCells ps
theorem partCells_nil : partCells [] = [] := rfl
theorem partCells_cons (j : Nat) (v : AV) (ps : List (Nat × AV)) : partCells ((j, v) :: ps) = v.cells ++ partCells ps := rfl
def bsTy (s : Slots) (h : Heap) (id len : Nat) (ps : List (Nat × AV)) (t : Ty) : Option (AV × St) := if len = ps.length ∧ inOrder 0 ps = true ∧ len * t.size ≤ 16777216 ∧ t.size ≠ 0 ∧ okPart t.size ps = true then newArr ⟨s, h⟩ id t (partCells ps) len else none
theorem bsTy_eq (id len : Nat) (ps : List (Nat × AV)) (t : Ty) : bsTy s h id len ps t = if len = ps.length ∧ inOrder 0 ps = true ∧ len * t.size ≤ 16777216 ∧ t.size ≠ 0 ∧ okPart t.size ps = true then newArr ⟨s, h⟩ id t (partCells ps) len else none := rfl
def bsTI (E : Env) (s : Slots) (h : Heap) (id len : Nat) (ps : List (Nat × AV)) (ti : TI) : Option (AV × St) := match ti.desc with
  | .slice e => (elTy E e).bind (bsTy s h id len ps)
  | _ => none
theorem bsTI_slice (id len : Nat) (ps : List (Nat × AV)) (e n m : Nat) : bsTI E s h id len ps ⟨.slice e, n, m⟩ = (elTy E e).bind (bsTy s h id len ps) := rfl
theorem elTy_eq (e : Nat) : elTy E e = elT E e (E.ty e) := rfl
theorem elT_some (e : Nat) (t : Ty) : elT E e (some t) = some t := rfl
theorem elT_none (e : Nat) : elT E e none = (E.tab e).bind (elP E) := rfl
theorem elP_ptr (x m : Nat) : elP E ⟨.ptr x, 1, m⟩ = (E.ty x).map .ptr := rfl
theorem buildSlice_eq (id T len : Nat) (ps : List (Nat × AV)) : buildSlice E ⟨s, h⟩ id T len ps = (E.tab T).bind (bsTI E s h id len ps) := by
 unfold buildSlice
 congr 1; funext ti
 unfold bsTI
 cases ti.desc with
 | slice e =>
  simp only
  congr 1; funext t
  unfold bsTy
  have h1 : ∀ ps : List (Nat × AV), (ps.map (·.2)).all (fun v => v.cells.length == t.size && !v.isUndef) = okPart t.size ps := by
   intro ps
   induction ps with
   | nil => rfl
   | cons p ps ih => obtain ⟨j, v⟩ := p; rw [List.map_cons, List.all_cons, okPart_cons, ih]
  have h2 : ∀ ps : List (Nat × AV), flatCells (ps.map (·.2)) = partCells ps := by
   intro ps
   induction ps with
   | nil => rfl
   | cons p ps ih => obtain ⟨j, v⟩ := p; rw [List.map_cons, partCells_cons, ← ih]; rfl
  rw [h1, h2]
 | _ => rfl
def naFr2 (id : Nat) (t : Ty) (s : Slots) (h : Heap) (xs : List t.Den) : Option (AV × St) := some (.os (.t id), St.alloc ⟨s, h⟩ id (.arr true false t xs))
theorem naFr2_eq (id : Nat) (t : Ty) (xs : List t.Den) : naFr2 id t s h xs = some (.os (.t id), St.alloc ⟨s, h⟩ id (.arr true false t xs)) := rfl
def naFr (id len : Nat) (t : Ty) (r : List AV × St) : Option (AV × St) := (elems t (groups t.size len r.1)).bind (naFr2 id t r.2.tmps r.2.heap)
theorem naFr_mk (id len : Nat) (t : Ty) (cs : List AV) : naFr id len t (cs, ⟨s, h⟩) = (elems t (groups t.size len cs)).bind (naFr2 id t s h) := rfl
def naD2 (id : Nat) (t : Ty) (st : St) (xs : List t.Den) : Option (AV × St) := some (.os (.t id), st.alloc id (.arr true true t xs))
theorem naD2_eq (id : Nat) (t : Ty) (xs : List t.Den) : naD2 id t ⟨s, h⟩ xs = some (.os (.t id), St.alloc ⟨s, h⟩ id (.arr true true t xs)) := rfl
def naD (s : Slots) (h : Heap) (id len : Nat) (t : Ty) (cells : List AV) : Option (List AV × List Nat) → Option (AV × St)
 | some r => if nodupN r.2 = true then (elems t (groups t.size len r.1)).bind (naD2 id t (St.gone ⟨s, h⟩ r.2)) else (freezes 4 ⟨s, h⟩ cells).bind (naFr id len t)
 | none => (freezes 4 ⟨s, h⟩ cells).bind (naFr id len t)
theorem naD_some (id len : Nat) (t : Ty) (cells cs : List AV) (gone : List Nat) : naD s h id len t cells (some (cs, gone)) = if nodupN gone = true then (elems t (groups t.size len cs)).bind (naD2 id t (St.gone ⟨s, h⟩ gone)) else (freezes 4 ⟨s, h⟩ cells).bind (naFr id len t) := rfl
theorem naD_none (id len : Nat) (t : Ty) (cells : List AV) : naD s h id len t cells none = (freezes 4 ⟨s, h⟩ cells).bind (naFr id len t) := rfl
theorem newArr_eq (id : Nat) (t : Ty) (cells : List AV) (len : Nat) : newArr ⟨s, h⟩ id t cells len = if t.refs = true then naD s h id len t cells (absorbs h cells) else (freezes 4 ⟨s, h⟩ cells).bind (naFr id len t) := by
 unfold newArr
 by_cases hr : t.refs = true
 ·rw [if_pos hr, if_pos hr]
  simp only
  cases hA : absorbs h cells with
  | none => rfl
  | some r =>
   simp only [Option.bind_some, naD]
   by_cases hn : nodupN r.2 = true
   ·rw [if_pos hn, if_pos hn]; rfl
   ·rw [if_neg hn, if_neg hn]; rfl
 ·rw [if_neg hr, if_neg hr]; rfl
def msTy (s : Slots) (h : Heap) (id bytes : Nat) (len cap : Int) (t : Ty) : Option (AV × St) := if 0 ≤ len ∧ len ≤ cap ∧ bytes * cap ≤ 140737488355328 ∧ cap ≤ 9223372036854775807 then some (.os (.t id), St.alloc ⟨s, h⟩ id (.arr true t.refs t (List.replicate len.toNat t.zero))) else none
theorem msTy_eq (id bytes : Nat) (len cap : Int) (t : Ty) : msTy s h id bytes len cap t = if 0 ≤ len ∧ len ≤ cap ∧ bytes * cap ≤ 140737488355328 ∧ cap ≤ 9223372036854775807 then some (.os (.t id), St.alloc ⟨s, h⟩ id (.arr true t.refs t (List.replicate len.toNat t.zero))) else none := rfl
def msEl (E : Env) (s : Slots) (h : Heap) (e id : Nat) (len cap : Int) (te : TI) : Option (AV × St) := (E.ty e).bind (msTy s h id te.bytes len cap)
theorem msEl_mk (e id : Nat) (len cap : Int) (td : TD) (n m : Nat) : msEl E s h e id len cap ⟨td, n, m⟩ = (E.ty e).bind (msTy s h id m len cap) := rfl
def msTI (E : Env) (s : Slots) (h : Heap) (id : Nat) (len cap : Int) (ti : TI) : Option (AV × St) := match ti.desc with
  | .slice e => (E.tab e).bind (msEl E s h e id len cap)
  | _ => none
theorem msTI_slice (id : Nat) (len cap : Int) (e n m : Nat) : msTI E s h id len cap ⟨.slice e, n, m⟩ = (E.tab e).bind (msEl E s h e id len cap) := rfl
theorem makeSlice_eq (id T : Nat) (len cap : Int) : makeSlice E ⟨s, h⟩ id T len cap = (E.tab T).bind (msTI E s h id len cap) := rfl
end
end Go.Q

namespace Go.Q
set_option linter.unusedVariables false
set_option linter.unusedSimpArgs false
set_option linter.unusedSectionVars false
open Go
section
variable {E : Env} {s : Slots} {h : Heap}
theorem lentFrom_eq : lentFrom = 1000000 := rfl
def gcW (s : Slots) (h0 : Heap) : Heap → Heap
 | [] => []
 | (i, o) :: h => if (decide (lentFrom ≤ i) || (Slots.leads i s || Heap.leads i h0)) = true then (i, o) :: gcW s h0 h else gcW s h0 h
theorem gcW_nil (h0 : Heap) : gcW s h0 [] = [] := rfl
theorem gcW_cons (h0 : Heap) (i : Nat) (o : Obj) : gcW s h0 ((i, o) :: h) = if (decide (lentFrom ≤ i) || (Slots.leads i s || Heap.leads i h0)) = true then (i, o) :: gcW s h0 h else gcW s h0 h := rfl
theorem gc1_eq : gc1 s h = gcW s h h := by
 unfold gc1
 have : ∀ h0 h : Heap, h.keepIf (fun i => decide (lentFrom ≤ i) || Slots.leads i s || Heap.leads i h0) = gcW s h0 h := by
  intro h0 h
  induction h with
  | nil => rfl
  | cons x h ih =>
   obtain ⟨i, o⟩ := x
   rw [Heap.keepIf, gcW_cons, ih, Bool.or_assoc]
 exact this h h
theorem hl_nil (i : Nat) : Heap.leads i [] = false := rfl
theorem hl_box (i j : Nat) (vs : List AV) : Heap.leads i ((j, .box vs) :: h) = (AV.leadss i vs || Heap.leads i h) := rfl
theorem hl_arr (i j : Nat) (m d : Bool) (t : Ty) (xs : List t.Den) : Heap.leads i ((j, .arr m d t xs) :: h) = Heap.leads i h := rfl
theorem hl_bld (i j : Nat) (d : Bool) (T e : Nat) (b : ByteArray) : Heap.leads i ((j, .bld d T e b) :: h) = Heap.leads i h := rfl
theorem hl_dead (i j : Nat) : Heap.leads i ((j, .dead) :: h) = Heap.leads i h := rfl
theorem sl_nil (i : Nat) : Slots.leads i [] = false := rfl
theorem sl_cons (i t : Nat) (v : AV) : Slots.leads i ((t, v) :: s) = (v.leads i || Slots.leads i s) := rfl
theorem vl_os (i : Nat) (p : Pl) : AV.leads i (.os p) = (p.id == i) := by rw [AV.leads]
theorem vl_sub (i : Nat) (p : Pl) (a n : Nat) : AV.leads i (.sub p a n) = (p.id == i) := by rw [AV.leads]
theorem vl_el (i : Nat) (p : Pl) (a n : Nat) : AV.leads i (.el p a n) = (p.id == i) := by rw [AV.leads]
theorem vl_op (i j a : Nat) : AV.leads i (.op j a) = (j == i) := by rw [AV.leads]
theorem vl_rp (i : Nat) (vs : List AV) : AV.leads i (.rp vs) = AV.leadss i vs := by rw [AV.leads]
theorem vl_agg (i : Nat) (vs : List AV) : AV.leads i (.agg vs) = AV.leadss i vs := by rw [AV.leads]
theorem vl_tuple (i : Nat) (vs : List AV) : AV.leads i (.tuple vs) = AV.leadss i vs := by rw [AV.leads]
theorem vl_fn (i f : Nat) (vs : List AV) : AV.leads i (.fn f vs) = AV.leadss i vs := by rw [AV.leads]
theorem vl_d (i : Nat) (t : Ty) (x : t.Den) : AV.leads i (.d t x) = false := by simp [AV.leads]
theorem vl_undef (i : Nat) : AV.leads i .undef = false := by simp [AV.leads]
theorem vl_nilS (i : Nat) : AV.leads i .nilS = false := by simp [AV.leads]
theorem vl_empS (i : Nat) : AV.leads i .empS = false := by simp [AV.leads]
theorem vl_nilF (i : Nat) : AV.leads i .nilF = false := by simp [AV.leads]
theorem vl_nilP (i : Nat) : AV.leads i .nilP = false := by simp [AV.leads]
theorem vl_nilM (i : Nat) : AV.leads i .nilM = false := by simp [AV.leads]
theorem vls_nil (i : Nat) : AV.leadss i [] = false := by rw [AV.leadss]
theorem vls_cons (i : Nat) (v : AV) (vs : List AV) : AV.leadss i (v :: vs) = (AV.leads i v || AV.leadss i vs) := by rw [AV.leadss]
theorem ow_os (p : Pl) : AV.owned (.os p) = true := by rw [AV.owned]
theorem ow_sub (p : Pl) (a n : Nat) : AV.owned (.sub p a n) = true := by rw [AV.owned]
theorem ow_el (p : Pl) (a n : Nat) : AV.owned (.el p a n) = true := by rw [AV.owned]
theorem ow_op (j a : Nat) : AV.owned (.op j a) = true := by rw [AV.owned]
theorem ow_rp (vs : List AV) : AV.owned (.rp vs) = AV.owneds vs := by rw [AV.owned]
theorem ow_agg (vs : List AV) : AV.owned (.agg vs) = AV.owneds vs := by rw [AV.owned]
theorem ow_tuple (vs : List AV) : AV.owned (.tuple vs) = AV.owneds vs := by rw [AV.owned]
theorem ow_fn (f : Nat) (vs : List AV) : AV.owned (.fn f vs) = AV.owneds vs := by rw [AV.owned]
theorem ow_d (t : Ty) (x : t.Den) : AV.owned (.d t x) = false := by simp [AV.owned]
theorem ow_undef : AV.owned .undef = false := by simp [AV.owned]
theorem ow_nilS : AV.owned .nilS = false := by simp [AV.owned]
theorem ow_empS : AV.owned .empS = false := by simp [AV.owned]
theorem ow_nilF : AV.owned .nilF = false := by simp [AV.owned]
theorem ow_nilP : AV.owned .nilP = false := by simp [AV.owned]
theorem ow_nilM : AV.owned .nilM = false := by simp [AV.owned]
theorem ows_nil : AV.owneds [] = false := by rw [AV.owneds]
theorem ows_cons (v : AV) (vs : List AV) : AV.owneds (v :: vs) = (AV.owned v || AV.owneds vs) := by rw [AV.owneds]
theorem sh_d (t : Ty) (x : t.Den) : AV.shares (.d t x) = t.refs := by rw [AV.shares]
theorem sh_rp (vs : List AV) : AV.shares (.rp vs) = true := by rw [AV.shares]
theorem sh_agg (vs : List AV) : AV.shares (.agg vs) = AV.sharess vs := by rw [AV.shares]
theorem sh_tuple (vs : List AV) : AV.shares (.tuple vs) = AV.sharess vs := by rw [AV.shares]
theorem sh_fn (f : Nat) (vs : List AV) : AV.shares (.fn f vs) = AV.sharess vs := by rw [AV.shares]
theorem sh_os (p : Pl) : AV.shares (.os p) = false := by simp [AV.shares]
theorem sh_sub (p : Pl) (a n : Nat) : AV.shares (.sub p a n) = false := by simp [AV.shares]
theorem sh_el (p : Pl) (a n : Nat) : AV.shares (.el p a n) = false := by simp [AV.shares]
theorem sh_op (j a : Nat) : AV.shares (.op j a) = false := by simp [AV.shares]
theorem sh_undef : AV.shares .undef = false := by simp [AV.shares]
theorem sh_nilS : AV.shares .nilS = false := by simp [AV.shares]
theorem sh_empS : AV.shares .empS = false := by simp [AV.shares]
theorem sh_nilF : AV.shares .nilF = false := by simp [AV.shares]
theorem sh_nilP : AV.shares .nilP = false := by simp [AV.shares]
theorem sh_nilM : AV.shares .nilM = false := by simp [AV.shares]
theorem shs_nil : AV.sharess [] = false := by rw [AV.sharess]
theorem shs_cons (v : AV) (vs : List AV) : AV.sharess (v :: vs) = (AV.shares v || AV.sharess vs) := by rw [AV.sharess]
theorem osh_arr (m d : Bool) (t : Ty) (xs : List t.Den) : Obj.shares (.arr m d t xs) = if d = true then t.refs2 else t.refs := rfl
theorem osh_box (vs : List AV) : Obj.shares (.box vs) = AV.sharess vs := rfl
theorem osh_bld (d : Bool) (T e : Nat) (b : ByteArray) : Obj.shares (.bld d T e b) = false := rfl
theorem osh_dead : Obj.shares .dead = false := rfl
theorem hsh_nil : Heap.shares [] = false := rfl
theorem hsh_cons (i : Nat) (o : Obj) : Heap.shares ((i, o) :: h) = (o.shares || Heap.shares h) := rfl
theorem ro_os (p : Pl) : refsOf (.os p) = [.a p] := by rw [refsOf]
theorem ro_sub (p : Pl) (a n : Nat) : refsOf (.sub p a n) = [.a p] := by rw [refsOf]
theorem ro_el (p : Pl) (a n : Nat) : refsOf (.el p a n) = [.a p] := by rw [refsOf]
theorem ro_op (j a : Nat) : refsOf (.op j a) = [.b j] := by rw [refsOf]
theorem ro_rp (vs : List AV) : refsOf (.rp vs) = refsOfs vs := by rw [refsOf]
theorem ro_agg (vs : List AV) : refsOf (.agg vs) = refsOfs vs := by rw [refsOf]
theorem ro_tuple (vs : List AV) : refsOf (.tuple vs) = refsOfs vs := by rw [refsOf]
theorem ro_fn (f : Nat) (vs : List AV) : refsOf (.fn f vs) = refsOfs vs := by rw [refsOf]
theorem ro_d (t : Ty) (x : t.Den) : refsOf (.d t x) = [] := by simp [refsOf]
theorem ro_undef : refsOf .undef = [] := by simp [refsOf]
theorem ro_nilS : refsOf .nilS = [] := by simp [refsOf]
theorem ro_empS : refsOf .empS = [] := by simp [refsOf]
theorem ro_nilF : refsOf .nilF = [] := by simp [refsOf]
theorem ro_nilP : refsOf .nilP = [] := by simp [refsOf]
theorem ro_nilM : refsOf .nilM = [] := by simp [refsOf]
theorem ros_nil : refsOfs [] = [] := by rw [refsOfs]
theorem ros_cons (v : AV) (vs : List AV) : refsOfs (v :: vs) = refsOf v ++ refsOfs vs := by rw [refsOfs]
def argBox (h : Heap) (m off : Nat) : Option Obj → Option AV
 | some (.box vs) => (mapO (argOf h m) (vs.drop off)).map .rp
 | _ => none
theorem ao_os (m : Nat) (p : Pl) : argOf h (m + 1) (.os p) = h.arrAt p := by rw [argOf]
theorem ao_sub (m : Nat) (p : Pl) (a n : Nat) : argOf h (m + 1) (.sub p a n) = (h.arrAt p).bind (cutO a n) := by rw [argOf]
theorem ao_el (m : Nat) (p : Pl) (i off : Nat) : argOf h (m + 1) (.el p i off) = (h.arrAt p).bind (elO i off) := by rw [argOf]
theorem ao_op (m id off : Nat) : argOf h (m + 1) (.op id off) = argBox h m off (h.get id) := by
 rw [argOf]
 simp only [argBox]
 cases h.get id with
 | none => rfl
 | some o => cases o <;> rfl
theorem argBox_box (m off : Nat) (vs : List AV) : argBox h m off (some (.box vs)) = (mapO (argOf h m) (vs.drop off)).map .rp := rfl
theorem ao_rp (m : Nat) (vs : List AV) : argOf h (m + 1) (.rp vs) = (mapO (argOf h m) vs).map .rp := by rw [argOf]
theorem ao_agg (m : Nat) (vs : List AV) : argOf h (m + 1) (.agg vs) = (mapO (argOf h m) vs).map .agg := by rw [argOf]
theorem ao_fn (m : Nat) (f : Nat) (vs : List AV) : argOf h (m + 1) (.fn f vs) = (mapO (argOf h m) vs).map (.fn f) := by rw [argOf]
theorem ao_d (m : Nat) (t : Ty) (x : t.Den) : argOf h (m + 1) (.d t x) = some (.d t x) := by simp [argOf]
theorem ao_nilS (m : Nat) : argOf h (m + 1) .nilS = some .nilS := by simp [argOf]
theorem ao_empS (m : Nat) : argOf h (m + 1) .empS = some .empS := by simp [argOf]
theorem ao_nilF (m : Nat) : argOf h (m + 1) .nilF = some .nilF := by simp [argOf]
theorem ao_nilP (m : Nat) : argOf h (m + 1) .nilP = some .nilP := by simp [argOf]
theorem ao_nilM (m : Nat) : argOf h (m + 1) .nilM = some .nilM := by simp [argOf]
theorem sb_nil : subsOf [] = [] := rfl
theorem sb_agg (us vs : List AV) : subsOf (.agg us :: vs) = us.flatMap subOf1 ++ subsOf vs := rfl
theorem sb1_os (p : Pl) : subOf1 (.os p) = [] := rfl
theorem sb_os (p : Pl) (vs : List AV) : subsOf ((.os p) :: vs) = [] ++ subsOf vs := rfl
theorem sb1_sub (i a n : Nat) : subOf1 (.sub (.t i) a n) = [(i, a, n)] := rfl
theorem sb_sub (i a n : Nat) (vs : List AV) : subsOf ((.sub (.t i) a n) :: vs) = [(i, a, n)] ++ subsOf vs := rfl
theorem sb1_subn (i j o a n : Nat) : subOf1 (.sub (.n i j o) a n) = [] := rfl
theorem sb_subn (i j o a n : Nat) (vs : List AV) : subsOf ((.sub (.n i j o) a n) :: vs) = [] ++ subsOf vs := rfl
theorem sb1_el (p : Pl) (i o : Nat) : subOf1 (.el p i o) = [] := rfl
theorem sb_el (p : Pl) (i o : Nat) (vs : List AV) : subsOf ((.el p i o) :: vs) = [] ++ subsOf vs := rfl
theorem sb1_op (i o : Nat) : subOf1 (.op i o) = [] := rfl
theorem sb_op (i o : Nat) (vs : List AV) : subsOf ((.op i o) :: vs) = [] ++ subsOf vs := rfl
theorem sb1_mp (i : Nat) : subOf1 (.mp i) = [] := rfl
theorem sb1_rp (us : List AV) : subOf1 (.rp us) = [] := rfl
theorem sb_rp (us : List AV) (vs : List AV) : subsOf ((.rp us) :: vs) = [] ++ subsOf vs := rfl
theorem sb1_fn (f : Nat) (us : List AV) : subOf1 (.fn f us) = [] := rfl
theorem sb_fn (f : Nat) (us : List AV) (vs : List AV) : subsOf ((.fn f us) :: vs) = [] ++ subsOf vs := rfl
theorem sb1_d (t : Ty) (x : t.Den) : subOf1 (.d t x) = [] := rfl
theorem sb_d (t : Ty) (x : t.Den) (vs : List AV) : subsOf ((.d t x) :: vs) = [] ++ subsOf vs := rfl
theorem sb1_undef : subOf1 .undef = [] := rfl
theorem sb_undef  (vs : List AV) : subsOf (.undef :: vs) = [] ++ subsOf vs := rfl
theorem sb1_nilS  : subOf1 .nilS = [] := rfl
theorem sb_nilS  (vs : List AV) : subsOf (.nilS :: vs) = [] ++ subsOf vs := rfl
theorem sb1_empS  : subOf1 .empS = [] := rfl
theorem sb_empS  (vs : List AV) : subsOf (.empS :: vs) = [] ++ subsOf vs := rfl
theorem sb1_nilF  : subOf1 .nilF = [] := rfl
theorem sb_nilF  (vs : List AV) : subsOf (.nilF :: vs) = [] ++ subsOf vs := rfl
theorem sb1_nilP  : subOf1 .nilP = [] := rfl
theorem sb_nilP  (vs : List AV) : subsOf (.nilP :: vs) = [] ++ subsOf vs := rfl
theorem sb1_nilM  : subOf1 .nilM = [] := rfl
theorem sb_nilM  (vs : List AV) : subsOf (.nilM :: vs) = [] ++ subsOf vs := rfl
def shrK (id a n : Nat) (l : List (Nat × Nat × Nat)) (vs : List AV) (h : Heap) : Option Obj → List AV × Heap
 | some (.arr true false t xs) => if AV.leadss id vs = true ∧ a + n ≤ xs.length ∧ a < xs.length then shrinks l (AV.mapRs (shrinkF id a n) vs) ((Heap.mapR (shrinkF id a n) h).put id (.arr true false t ((xs.drop a).take n))) else shrinks l vs h
 | _ => shrinks l vs h
theorem shrinks_cons (id a n : Nat) (l : List (Nat × Nat × Nat)) (vs : List AV) : shrinks ((id, a, n) :: l) vs h = shrK id a n l vs h (h.get id) := by
 rw [shrinks]
 unfold shrK
 cases h.get id with
 | none => rfl
 | some o =>
  cases o with
  | arr m d t xs => cases m <;> cases d <;> rfl
  | _ => rfl
theorem shrK_arr (id a n : Nat) (l : List (Nat × Nat × Nat)) (vs : List AV) (t : Ty) (xs : List t.Den) : shrK id a n l vs h (some (.arr true false t xs)) = if AV.leadss id vs = true ∧ a + n ≤ xs.length ∧ a < xs.length then shrinks l (AV.mapRs (shrinkF id a n) vs) ((Heap.mapR (shrinkF id a n) h).put id (.arr true false t ((xs.drop a).take n))) else shrinks l vs h := rfl
theorem shrK_still (id a n : Nat) (l : List (Nat × Nat × Nat)) (vs : List AV) (d : Bool) (t : Ty) (xs : List t.Den) : shrK id a n l vs h (some (.arr false d t xs)) = shrinks l vs h := rfl
theorem shrK_deep (id a n : Nat) (l : List (Nat × Nat × Nat)) (vs : List AV) (m : Bool) (t : Ty) (xs : List t.Den) : shrK id a n l vs h (some (.arr m true t xs)) = shrinks l vs h := by cases m <;> rfl
theorem shrK_none (id a n : Nat) (l : List (Nat × Nat × Nat)) (vs : List AV) : shrK id a n l vs h none = shrinks l vs h := rfl
theorem fl_nil (x : Unit) : flat .nil x = [] := rfl
theorem fl_cons (a b : Ty) (x : (Ty.cons a b).Den) : flat (.cons a b) x = flat a x.1 ++ flat b x.2 := rfl
theorem fl_agg (l : Ty) (x : l.Den) : flat (.agg l) x = flat l x := rfl
theorem fl_int (k : IntKind) (x : Int) : flat (.int k) x = [.d (.int k) x] := rfl
theorem fl_bool (x : Bool) : flat .bool x = [.d .bool x] := rfl
theorem fl_slice (t : Ty) (x : List t.Den) : flat (.slice t) x = [.d (.slice t) x] := rfl
theorem fl_ptr (t : Ty) (x : t.Den) : flat (.ptr t) x = [.rp (flat t x)] := rfl
def unf2 (b : Ty) (α : Type) (r : α × List AV) : Option ((α × b.Den) × List AV) := (unflat b r.2).map fun s => ((r.1, s.1), s.2)
def unf3 {α β : Type} (x : α) (s : β × List AV) : (α × β) × List AV := ((x, s.1), s.2)
theorem unf3_mk {α β : Type} (x : α) (y : β) (vs : List AV) : unf3 x (y, vs) = ((x, y), vs) := rfl
theorem unf2_mk (b : Ty) (α : Type) (x : α) (vs : List AV) : unf2 b α (x, vs) = (unflat b vs).map (unf3 x) := rfl
theorem un_nil (vs : List AV) : unflat .nil vs = some ((), vs) := by rw [unflat]
theorem un_cons (a b : Ty) (vs : List AV) : unflat (.cons a b) vs = (unflat a vs).bind (unf2 b a.Den) := by rw [unflat]; rfl
theorem un_agg (l : Ty) (vs : List AV) : unflat (.agg l) vs = unflat l vs := by rw [unflat]
def withR {α : Type} (vs : List AV) (x : α) : α × List AV := (x, vs)
theorem withR_eq {α : Type} (vs : List AV) (x : α) : withR vs x = (x, vs) := rfl
theorem un_int (k : IntKind) (v : AV) (vs : List AV) : unflat (.int k) (v :: vs) = (asDen (.int k) v).map (withR vs) := by rw [unflat]; rfl
theorem un_bool (v : AV) (vs : List AV) : unflat .bool (v :: vs) = (asDen .bool v).map (withR vs) := by rw [unflat]; rfl
theorem un_slice (t : Ty) (v : AV) (vs : List AV) : unflat (.slice t) (v :: vs) = (asList t v).map (withR vs) := by rw [unflat]; rfl
theorem asList_nilS (t : Ty) : asList t .nilS = some [] := rfl
theorem asList_empS (t : Ty) : asList t .empS = some [] := rfl
def elems2 (t : Ty) (vs : List (List AV)) (x : t.Den) : Option (List t.Den) := (elems t vs).map (List.cons x)
theorem elems2_eq (t : Ty) (vs : List (List AV)) (x : t.Den) : elems2 t vs x = (elems t vs).map (List.cons x) := rfl
theorem elems_nil (t : Ty) : elems t [] = some [] := rfl
theorem elems_cons (t : Ty) (cs : List AV) (vs : List (List AV)) : elems t (cs :: vs) = ((unflat t cs).bind oneOnly).bind (elems2 t vs) := by
 rw [elems]
 cases unflat t cs with
 | none => rfl
 | some y => simp only [Option.bind_some, oneOnly]; split <;> rfl
theorem groups_zero (sz : Nat) (cs : List AV) : groups sz 0 cs = [] := rfl
theorem groups_succ (sz n : Nat) (cs : List AV) : groups sz (n + 1) cs = cs.take sz :: groups sz n (cs.drop sz) := rfl
theorem inOrder_nil (k : Nat) : inOrder k [] = true := rfl
theorem inOrder_cons (k j : Nat) (v : AV) (ps : List (Nat × AV)) : inOrder k ((j, v) :: ps) = (j == k && inOrder (k + 1) ps) := rfl
theorem one_d (t : Ty) (x : t.Den) : AV.isOne (.d t x) = true := rfl
theorem one_os (p : Pl) : AV.isOne (.os p) = true := rfl
theorem one_sub (p : Pl) (a n : Nat) : AV.isOne (.sub p a n) = true := rfl
theorem one_el (p : Pl) (a n : Nat) : AV.isOne (.el p a n) = true := rfl
theorem one_op (i n : Nat) : AV.isOne (.op i n) = true := rfl
theorem one_rp (vs : List AV) : AV.isOne (.rp vs) = true := rfl
theorem one_fn (f : Nat) (vs : List AV) : AV.isOne (.fn f vs) = true := rfl
theorem one_nilS : AV.isOne .nilS = true := rfl
theorem one_empS : AV.isOne .empS = true := rfl
theorem one_nilP : AV.isOne .nilP = true := rfl
theorem one_nilF : AV.isOne .nilF = true := rfl
theorem one_nilM : AV.isOne .nilM = true := rfl
theorem lo_d (t : Ty) (xs : List t.Den) : lenOf h (.d (.slice t) xs) = some ((List.length xs : Nat) : Int) := rfl
def natInt (n : Nat) : Int := n
def lenN (v : AV) : Option Int := (lenAV v).map natInt
theorem lenN_d (t : Ty) (xs : List t.Den) : lenN (.d (.slice t) xs) = some ((List.length xs : Nat) : Int) := rfl
theorem lo_os (p : Pl) : lenOf h (.os p) = (h.arrAt p).bind lenN := rfl
theorem lo_sub (p : Pl) (a n : Nat) : lenOf h (.sub p a n) = some (n : Int) := rfl
theorem lo_nilS : lenOf h .nilS = some 0 := rfl
theorem lo_empS : lenOf h .empS = some 0 := rfl
def strLen : AV → Option Int
 | .d .str s => some s.size
 | _ => none
def mapLen : Option Obj → Option Int
 | some (.mp _ _ kvs) => some (kvs.length : Int)
 | _ => none
def lenMp (h : Heap) : AV → Option Int
 | .mp id => mapLen (h.get id)
 | _ => none
def lenTI (h : Heap) (x : AV) (ti : TI) : Option Int := match ti.desc with
 | .str => strLen x
 | .slice _ => lenOf h x
 | .arr n _ => some n
 | .map _ _ => lenMp h x
 | _ => none
theorem lenTI_map (x : AV) (k e n m : Nat) : lenTI h x ⟨.map k e, n, m⟩ = lenMp h x := rfl
theorem lenT_eq (T : Nat) (x : AV) : lenT E T h x = (E.tab T).bind (lenTI h x) := by
 unfold lenT
 congr 1
theorem lenTI_str (x : AV) (n m : Nat) : lenTI h x ⟨.str, n, m⟩ = strLen x := rfl
theorem lenTI_slice (x : AV) (e n m : Nat) : lenTI h x ⟨.slice e, n, m⟩ = lenOf h x := rfl
theorem lenTI_arr (x : AV) (l e n m : Nat) : lenTI h x ⟨.arr l e, n, m⟩ = some (l : Int) := rfl
def sub0 (p : Pl) (b : Nat × Nat) : AV := .sub p b.1 (b.2 - b.1)
theorem sub0_mk (p : Pl) (a b : Nat) : sub0 p (a, b) = .sub p a (b - a) := rfl
def subA (p : Pl) (a : Nat) (b : Nat × Nat) : AV := .sub p (a + b.1) (b.2 - b.1)
theorem subA_mk (p : Pl) (c a b : Nat) : subA p c (a, b) = .sub p (c + a) (b - a) := rfl
def emp0 (_ : Nat × Nat) : AV := .empS
theorem emp0_eq (b : Nat × Nat) : emp0 b = .empS := rfl
def slOs (sz : Nat) (p : Pl) (lo hi : Option Int) : AV → Option AV
 | .d (.slice t) xs => if sz = t.size then (bounds (List.length xs) lo hi).map (sub0 p) else none
 | _ => none
theorem slOs_d (sz : Nat) (p : Pl) (lo hi : Option Int) (t : Ty) (xs : List t.Den) : slOs sz p lo hi (.d (.slice t) xs) = if sz = t.size then (bounds (List.length xs) lo hi).map (sub0 p) else none := rfl
def slSub (sz : Nat) (p : Pl) (a n : Nat) (lo hi : Option Int) : AV → Option AV
 | .d (.slice t) xs => if sz = t.size then (orB (bounds n lo hi) (bounds2 n (List.length xs - a) lo hi)).map (subA p a) else none
 | _ => none
theorem slSub_d (sz : Nat) (p : Pl) (a n : Nat) (lo hi : Option Int) (t : Ty) (xs : List t.Den) : slSub sz p a n lo hi (.d (.slice t) xs) = if sz = t.size then (orB (bounds n lo hi) (bounds2 n (List.length xs - a) lo hi)).map (subA p a) else none := rfl
theorem orB_some {α : Type} (x : α) (y : Option α) : orB (some x) y = some x := rfl
theorem orB_none {α : Type} (y : Option α) : orB none y = y := rfl
theorem orB_ite {α : Type} (p : Prop) [Decidable p] (x : α) (y : Option α) : orB (if p then some x else none) y = if p then some x else y := by split <;> rfl
theorem bounds2_eq (n m : Nat) (lo hi : Option Int) : bounds2 n m lo hi = if 0 ≤ lo.getD 0 ∧ lo.getD 0 ≤ hi.getD n ∧ hi.getD n ≤ m then some ((lo.getD 0).toNat, (hi.getD n).toNat) else none := rfl
def look3 (m : Int) : AV → Option AV
 | .d (.slice t) xs => if m ≤ List.length xs then some .undef else none
 | _ => none
theorem look3_d (m : Int) (t : Ty) (xs : List t.Den) : look3 m (.d (.slice t) xs) = if m ≤ List.length xs then some .undef else none := rfl
def mkSl (t : Ty) (xs : List t.Den) : AV := .d (.slice t) xs
theorem mkSl_eq (t : Ty) (xs : List t.Den) : mkSl t xs = .d (.slice t) xs := rfl
theorem so_d (sz : Nat) (lo hi : Option Int) (t : Ty) (xs : List t.Den) : sliceOp h sz (.d (.slice t) xs) lo hi none = if sz = t.size then (cut xs lo hi).map (mkSl t) else none := rfl
theorem so_os (sz : Nat) (lo hi : Option Int) (p : Pl) : sliceOp h sz (.os p) lo hi none = (h.arrAt p).bind (slOs sz p lo hi) := by
 simp only [sliceOp]
 cases h.arrAt p with
 | none => rfl
 | some v =>
  cases v with
  | d t x => cases t <;> rfl
  | _ => rfl
theorem so_sub (sz : Nat) (lo hi : Option Int) (p : Pl) (a n : Nat) : sliceOp h sz (.sub p a n) lo hi none = (h.arrAt p).bind (slSub sz p a n lo hi) := by
 simp only [sliceOp]
 cases h.arrAt p with
 | none => rfl
 | some v =>
  cases v with
  | d t x => cases t <;> rfl
  | _ => rfl
theorem so_nil (sz : Nat) (lo hi : Option Int) : sliceOp h sz .nilS lo hi none = (bounds 0 lo hi).map emp0 := rfl
theorem so_emp (sz : Nat) (lo hi : Option Int) : sliceOp h sz .empS lo hi none = (bounds 0 lo hi).map emp0 := rfl
theorem so3_d (sz : Nat) (m l : Int) (t : Ty) (xs : List t.Den) : sliceOp h sz (.d (.slice t) xs) none (some l) (some m) = if m = 0 ∧ l = 0 then some .empS else none := rfl
theorem so3_os (sz : Nat) (m l : Int) (p : Pl) : sliceOp h sz (.os p) none (some l) (some m) = if m = 0 ∧ l = 0 then some .empS else none := rfl
theorem so3_sub (sz : Nat) (m l : Int) (p : Pl) (a n : Nat) : sliceOp h sz (.sub p a n) none (some l) (some m) = if m = 0 ∧ l = 0 then some .empS else none := rfl
theorem so3_nil (sz : Nat) (m l : Int) : sliceOp h sz .nilS none (some l) (some m) = if m = 0 ∧ l = 0 then some .empS else none := rfl
theorem so3_emp (sz : Nat) (m l : Int) : sliceOp h sz .empS none (some l) (some m) = if m = 0 ∧ l = 0 then some .empS else none := rfl
theorem bounds_eq (n : Nat) (lo hi : Option Int) : bounds n lo hi = if 0 ≤ lo.getD 0 ∧ lo.getD 0 ≤ hi.getD n ∧ hi.getD n ≤ n then some ((lo.getD 0).toNat, (hi.getD n).toNat) else none := rfl
theorem cut_nn {α : Type} (xs : List α) : cut xs none none = some xs := rfl
theorem cut_sn {α : Type} (xs : List α) (l : Int) : cut xs (some l) none = if 0 ≤ l ∧ l ≤ xs.length then some (xs.drop l.toNat) else none := rfl
theorem cut_ns {α : Type} (xs : List α) (m : Int) : cut xs none (some m) = if 0 ≤ m ∧ m ≤ xs.length then some (xs.take m.toNat) else none := rfl
theorem cut_ss {α : Type} (xs : List α) (l m : Int) : cut xs (some l) (some m) = if 0 ≤ l ∧ l ≤ m ∧ m ≤ xs.length then some ((xs.drop l.toNat).take (m.toNat - l.toNat)) else none := rfl
def slEl (h : Heap) (x : AV) (lo hi mx : Option Int) (te : TI) : Option AV := sliceOp h te.size x lo hi mx
theorem slEl_mk (x : AV) (lo hi mx : Option Int) (td : TD) (n m : Nat) : slEl h x lo hi mx ⟨td, n, m⟩ = sliceOp h n x lo hi mx := rfl
def strCut (b : ByteArray) (p : Nat × Nat) : AV := .d .str (b.extract p.1 p.2)
def slStr (lo hi mx : Option Int) : AV → Option AV
 | .d .str s => match mx with
  | none => (bounds s.size lo hi).map (strCut s)
  | some _ => none
 | _ => none
def slTI (E : Env) (h : Heap) (x : AV) (lo hi mx : Option Int) (ti : TI) : Option AV := match ti.desc with
  | .str => slStr lo hi mx x
  | .slice e => (E.tab e).bind (slEl h x lo hi mx)
  | _ => none
theorem slTI_slice (x : AV) (lo hi mx : Option Int) (e n m : Nat) : slTI E h x lo hi mx ⟨.slice e, n, m⟩ = (E.tab e).bind (slEl h x lo hi mx) := rfl
theorem slTI_str (x : AV) (lo hi mx : Option Int) (n m : Nat) : slTI E h x lo hi mx ⟨.str, n, m⟩ = slStr lo hi mx x := rfl
theorem sliceT_eq (T : Nat) (x : AV) (lo hi mx : Option Int) : sliceT E h T x lo hi mx = (E.tab T).bind (slTI E h x lo hi mx) := by
 unfold sliceT
 congr 1; funext ti
 unfold slTI
 cases ti.desc with
 | str =>
  simp only [slStr]
  cases mx with
  | none =>
   cases x with
   | d t x => cases t <;> rfl
   | _ => rfl
  | some m =>
   cases x with
   | d t x => cases t <;> rfl
   | _ => rfl
 | _ => rfl
def sl3 (E : Env) (h : Heap) (T : Nat) (x : AV) (l m n : Option Int) : Option AV := sliceT E h T x l m n
theorem sl3_eq (T : Nat) (x : AV) (l m n : Option Int) : sl3 E h T x l m n = sliceT E h T x l m n := rfl
def sl2 (E : Env) (h : Heap) (T : Nat) (x : AV) (s : Slots) (mx : Option Operand) (l m : Option Int) : Option AV := (optInt ⟨s, h⟩ mx).bind (sl3 E h T x l m)
theorem sl2_eq (T : Nat) (x : AV) (mx : Option Operand) (l m : Option Int) : sl2 E h T x s mx l m = (optInt ⟨s, h⟩ mx).bind (sl3 E h T x l m) := rfl
def sl1 (E : Env) (h : Heap) (T : Nat) (x : AV) (s : Slots) (hi mx : Option Operand) (l : Option Int) : Option AV := (optInt ⟨s, h⟩ hi).bind (sl2 E h T x s mx l)
theorem sl1_eq (T : Nat) (x : AV) (hi mx : Option Operand) (l : Option Int) : sl1 E h T x s hi mx l = (optInt ⟨s, h⟩ hi).bind (sl2 E h T x s mx l) := rfl
theorem ex_sl (d : Option Nat) (T : Nat) (x : Operand) (lo hi mx : Option Operand) : exOp E ⟨d, .slice T x lo hi mx, 0, "", #[], none⟩ ⟨s, h⟩ = ((optInt ⟨s, h⟩ lo).bind (sl1 E h T (eval ⟨s, h⟩ x) s hi mx)).map (St.put ⟨s, h⟩ d) := rfl
def ixArr (vs : List AV) (m : Nat) (n : Int) (te : TI) : Option AV := if 0 ≤ n ∧ n < m ∧ n.toNat * te.size + te.size ≤ vs.length then mkV te ((vs.drop (n.toNat * te.size)).take te.size) else none
def ixTI (E : Env) (x : AV) (n : Int) (ti : TI) : Option AV := match ti.desc, x with
  | .str, .d .str b => if 0 ≤ n ∧ n < b.size then some (.d (.int .u8) (strAt b n.toNat)) else none
  | .arr m e, .agg vs => (E.tab e).bind (ixArr vs m n)
  | _, _ => none
theorem ixTI_str (b : ByteArray) (n : Int) (a c : Nat) : ixTI E (.d .str b) n ⟨.str, a, c⟩ = if 0 ≤ n ∧ n < b.size then some (.d (.int .u8) (strAt b n.toNat)) else none := rfl
theorem ixTI_arr (vs : List AV) (n : Int) (m e a c : Nat) : ixTI E (.agg vs) n ⟨.arr m e, a, c⟩ = (E.tab e).bind (ixArr vs m n) := rfl
def iaV (E : Env) (h : Heap) (T : Nat) (x : AV) (n : Int) : Option AV := indexAddr E h T x n
theorem iaV_eq (T : Nat) (x : AV) (n : Int) : iaV E h T x n = indexAddr E h T x n := rfl
theorem ex_ia2 (d : Option Nat) (T : Nat) (x i : Operand) : exOp E ⟨d, .indexAddr T x i, 0, "", #[], none⟩ ⟨s, h⟩ = ((intOf (eval ⟨s, h⟩ i)).bind (iaV E h T (eval ⟨s, h⟩ x))).map (St.put ⟨s, h⟩ d) := ex_ia T x i
def putI (s : Slots) (h : Heap) (d : Option Nat) (n : Int) : St := St.put ⟨s, h⟩ d (.d (.int .i64) n)
theorem putI_eq (d : Option Nat) (n : Int) : putI s h d n = St.put ⟨s, h⟩ d (.d (.int .i64) n) := rfl
theorem ex_len2 (d : Option Nat) (x : Operand) (T : Nat) : exOp E ⟨d, .call ⟨.builtin .len, #[x], #[T]⟩, 0, "", #[], none⟩ ⟨s, h⟩ = (lenT E T h (eval ⟨s, h⟩ x)).map (putI s h d) := ex_len x T
def msV (E : Env) (s : Slots) (h : Heap) (id T : Nat) (a b : Int) : Option (AV × St) := makeSlice E ⟨s, h⟩ id T a b
theorem msV_eq (id T : Nat) (a b : Int) : msV E s h id T a b = makeSlice E ⟨s, h⟩ id T a b := rfl
def msV1 (E : Env) (s : Slots) (h : Heap) (id T : Nat) (c : Operand) (a : Int) : Option (AV × St) := (intOf (eval ⟨s, h⟩ c)).bind (msV E s h id T a)
theorem msV1_eq (id T : Nat) (c : Operand) (a : Int) : msV1 E s h id T c a = (intOf (eval ⟨s, h⟩ c)).bind (msV E s h id T a) := rfl
theorem ex_ms2 (d : Option Nat) (T : Nat) (n c : Operand) : exOp E ⟨d, .makeSlice T n c, 0, "", #[], none⟩ ⟨s, h⟩ = ((intOf (eval ⟨s, h⟩ n)).bind (msV1 E s h (newId d) T c)).map (put2 d) := ex_ms T n c
def putU (d : Option Nat) (st : St) : St := st.put d .undef
theorem putU_eq (d : Option Nat) : putU d ⟨s, h⟩ = St.put ⟨s, h⟩ d .undef := rfl
theorem ex_st (d : Option Nat) (T : Nat) (p x : Operand) : exOp E ⟨d, .store T p x, 0, "", #[], none⟩ ⟨s, h⟩ = (storeAt E ⟨s, h⟩ T (eval ⟨s, h⟩ p) (eval ⟨s, h⟩ x)).map (putU d) := ex_store T p x
def evl (s : Slots) (h : Heap) : List Operand → List AV
 | [] => []
 | x :: xs => eval ⟨s, h⟩ x :: evl s h xs
theorem evl_nil : evl s h [] = [] := rfl
theorem evl_cons (x : Operand) (xs : List Operand) : evl s h (x :: xs) = eval ⟨s, h⟩ x :: evl s h xs := rfl
theorem evl_eq : ∀ xs : List Operand, xs.map (eval ⟨s, h⟩) = evl s h xs
 | [] => rfl
 | x :: xs => by rw [List.map_cons, evl_cons, evl_eq xs]
def evalp (s : Slots) (h : Heap) : List (Nat × Operand) → List (Nat × AV)
 | [] => []
 | (j, x) :: xs => (j, eval ⟨s, h⟩ x) :: evalp s h xs
theorem evalp_nil : evalp s h [] = [] := rfl
theorem evalp_cons (j : Nat) (x : Operand) (xs : List (Nat × Operand)) : evalp s h ((j, x) :: xs) = (j, eval ⟨s, h⟩ x) :: evalp s h xs := rfl
theorem evalp_eq : ∀ xs : List (Nat × Operand), xs.map (fun p => (p.1, eval ⟨s, h⟩ p.2)) = evalp s h xs
 | [] => rfl
 | (j, x) :: xs => by rw [List.map_cons, evalp_cons, evalp_eq xs]
theorem ex_call2 (d : Option Nat) (f : Operand) (xs : Array Operand) (ts : Array Nat) : exOp E ⟨d, .call ⟨.value f, xs, ts⟩, 0, "", #[], none⟩ ⟨s, h⟩ = (callVia E ⟨s, h⟩ (newId d) (evl s h xs.toList) (eval ⟨s, h⟩ f)).map (put2 d) := by rw [ex_call, evl_eq]
theorem ex_fn2 (d : Option Nat) (f : Nat) (caps : Array Operand) : exOp E ⟨d, .makeFunc (.func f) #[] caps, 0, "", #[], none⟩ ⟨s, h⟩ = some (St.put ⟨s, h⟩ d (.fn f (evl s h caps.toList))) := by rw [ex_fn, evl_eq]
theorem ex_build2 (d : Option Nat) (T : Nat) (ps : Array (Nat × Operand)) : exOp E ⟨d, .build T ps, 0, "", #[], none⟩ ⟨s, h⟩ = (build E T (evalp s h ps.toList)).map (St.put ⟨s, h⟩ d) := by rw [ex_build, evalp_eq]
theorem ex_bs2 (d : Option Nat) (T len : Nat) (ps : Array (Nat × Operand)) : exOp E ⟨d, .buildSlice T len ps, 0, "", #[], none⟩ ⟨s, h⟩ = (buildSlice E ⟨s, h⟩ (newId d) T len (evalp s h ps.toList)).map (put2 d) := by rw [ex_bs, evalp_eq]
def toStr (xs : List Int) : AV := .d .str (bytesS xs)
def cvEl (h : Heap) (x : AV) (te : TI) : Option AV := match te.desc with
 | .int .u8 => (listOf h (.int .u8) x).map toStr
 | _ => none
theorem cvEl_u8 (x : AV) (n m : Nat) : cvEl h x ⟨.int .u8, n, m⟩ = (listOf h (.int .u8) x).map toStr := rfl
def cvStr (E : Env) (h : Heap) (x : AV) (ts : TI) : Option AV := match x with
 | .d .str b => some (.d .str b)
 | x => match ts.desc with
  | .slice e => (E.tab e).bind (cvEl h x)
  | _ => none
theorem cvStr_str (b : ByteArray) (ts : TI) : cvStr E h (.d .str b) ts = some (.d .str b) := rfl
theorem cvStr_os (p : Pl) (e n m : Nat) : cvStr E h (.os p) ⟨.slice e, n, m⟩ = (E.tab e).bind (cvEl h (.os p)) := rfl
theorem cvStr_sub (p : Pl) (a b : Nat) (e n m : Nat) : cvStr E h (.sub p a b) ⟨.slice e, n, m⟩ = (E.tab e).bind (cvEl h (.sub p a b)) := rfl
theorem cvStr_sl (t : Ty) (x : List t.Den) (e n m : Nat) : cvStr E h (.d (.slice t) x) ⟨.slice e, n, m⟩ = (E.tab e).bind (cvEl h (.d (.slice t) x)) := rfl
theorem cvStr_nil (e n m : Nat) : cvStr E h .nilS ⟨.slice e, n, m⟩ = (E.tab e).bind (cvEl h .nilS) := rfl
theorem cvStr_emp (e n m : Nat) : cvStr E h .empS ⟨.slice e, n, m⟩ = (E.tab e).bind (cvEl h .empS) := rfl
def cvInt (k : IntKind) : AV → Option AV
 | .d (.int _) n => some (.d (.int k) (k.wrap n))
 | _ => none
theorem cvInt_int (k k' : IntKind) (n : Int) : cvInt k (.d (.int k') n) = some (.d (.int k) (k.wrap n)) := rfl
def cv2 (E : Env) (h : Heap) (x : AV) (ts td : TI) : Option AV := match td.desc with
 | .int k => cvInt k x
 | .str => cvStr E h x ts
 | _ => none
theorem cv2_int (x : AV) (ts : TI) (k : IntKind) (n m : Nat) : cv2 E h x ts ⟨.int k, n, m⟩ = cvInt k x := rfl
theorem cv2_str (x : AV) (ts : TI) (n m : Nat) : cv2 E h x ts ⟨.str, n, m⟩ = cvStr E h x ts := rfl
def cv1 (E : Env) (h : Heap) (dst : Nat) (x : AV) (ts : TI) : Option AV := (E.tab dst).bind (cv2 E h x ts)
theorem cv1_eq (dst : Nat) (x : AV) (ts : TI) : cv1 E h dst x ts = (E.tab dst).bind (cv2 E h x ts) := rfl
theorem convertT_eq (src dst : Nat) (x : AV) : convertT E h src dst x = (E.tab src).bind (cv1 E h dst x) := by
 unfold convertT cv1 cv2
 congr 1; funext ts
 congr 1; funext td
 cases td.desc with
 | int k =>
  cases x with
  | d t x => cases t <;> rfl
  | _ => rfl
 | str =>
  simp only [cvStr]
  cases x with
  | d t x =>
   cases t with
   | str => rfl
   | _ =>
    simp only
    cases ts.desc <;> first | rfl | (simp only; congr 1)
  | _ =>
   simp only
   cases ts.desc <;> first | rfl | (simp only; congr 1)
 | _ => rfl
theorem room_eq (n b : Nat) : roomFor n b = decide (n * b ≤ 140737488355328 ∧ n ≤ 9223372036854775807) := rfl
theorem setL_nil (n : Nat) (v : AV) : setL n v [] = [] := by cases n <;> rfl
theorem setL_zero (v u : AV) (vs : List AV) : setL 0 v (u :: vs) = v :: vs := rfl
theorem setL_succ (n : Nat) (v u : AV) (vs : List AV) : setL (n + 1) v (u :: vs) = u :: setL n v vs := rfl
end
end Go.Q

namespace Go.Q
set_option linter.unusedVariables false
set_option linter.unusedSimpArgs false
set_option linter.unusedSectionVars false
open Go
section
variable {E : Env} {s : Slots} {h : Heap} {d : Option Nat}
def lkT (E : Env) (h : Heap) (m k : AV) (ok : Bool) (ti : TI) : Option AV := match ti.desc, m with
 | .map a b, .mp id => lookupO E a b k ok (h.get id)
 | _, _ => none
theorem lookupT_eq (T : Nat) (m k : AV) (ok : Bool) : lookupT E h T m k ok = (E.tab T).bind (lkT E h m k ok) := rfl
theorem lkT_mp (id a b n z : Nat) (k : AV) (ok : Bool) : lkT E h (.mp id) k ok ⟨.map a b, n, z⟩ = lookupO E a b k ok (h.get id) := rfl
def lk5 (te : TI) (ok : Bool) (z : List AV) : Option AV := (mkV te z).map (okV ok false)
theorem lk5_eq (te : TI) (ok : Bool) (z : List AV) : lk5 te ok z = (mkV te z).map (okV ok false) := rfl
def lk4 (E : Env) (b : Nat) (ok : Bool) (tv : Ty) (te : TI) : Option tv.Den → Option AV
 | some x => (mkV te (flat tv x)).map (okV ok true)
 | none => (zeros E.tab 8 b).bind (lk5 te ok)
theorem lk4_some (b : Nat) (ok : Bool) (tv : Ty) (te : TI) (x : tv.Den) : lk4 E b ok tv te (some x) = (mkV te (flat tv x)).map (okV ok true) := rfl
theorem lk4_none (b : Nat) (ok : Bool) (tv : Ty) (te : TI) : lk4 E b ok tv te none = (zeros E.tab 8 b).bind (lk5 te ok) := rfl
def lk3 (E : Env) (b : Nat) (ok : Bool) (tk tv : Ty) (kvs : List (tk.Den × tv.Den)) (te : TI) (key : tk.Den) : Option AV := lk4 E b ok tv te (findL key kvs)
theorem lk3_eq (b : Nat) (ok : Bool) (tk tv : Ty) (kvs : List (tk.Den × tv.Den)) (te : TI) (key : tk.Den) : lk3 E b ok tk tv kvs te key = lk4 E b ok tv te (findL key kvs) := rfl
def lk2 (E : Env) (b : Nat) (k : AV) (ok : Bool) (tk tv : Ty) (kvs : List (tk.Den × tv.Den)) (ki te : TI) : Option AV := if keyD ki.desc tk = true ∧ te.isAgg = tv.isAggT then (asDen tk k).bind (lk3 E b ok tk tv kvs te) else none
theorem lk2_mk (b : Nat) (k : AV) (ok : Bool) (tk tv : Ty) (kvs : List (tk.Den × tv.Den)) (td te : TD) (n m n2 m2 : Nat) : lk2 E b k ok tk tv kvs ⟨td, n, m⟩ ⟨te, n2, m2⟩ = if keyD td tk = true ∧ TI.isAgg ⟨te, n2, m2⟩ = tv.isAggT then (asDen tk k).bind (lk3 E b ok tk tv kvs ⟨te, n2, m2⟩) else none := rfl
def lk1 (E : Env) (b : Nat) (k : AV) (ok : Bool) (tk tv : Ty) (kvs : List (tk.Den × tv.Den)) (ki : TI) : Option AV := (E.tab b).bind (lk2 E b k ok tk tv kvs ki)
theorem lk1_mk (b : Nat) (k : AV) (ok : Bool) (tk tv : Ty) (kvs : List (tk.Den × tv.Den)) (td : TD) (n m : Nat) : lk1 E b k ok tk tv kvs ⟨td, n, m⟩ = (E.tab b).bind (lk2 E b k ok tk tv kvs ⟨td, n, m⟩) := rfl
theorem lookupO_mp (a b : Nat) (k : AV) (ok : Bool) (tk tv : Ty) (kvs : List (tk.Den × tv.Den)) : lookupO E a b k ok (some (.mp tk tv kvs)) = (E.tab a).bind (lk1 E b k ok tk tv kvs) := by
 simp only [lookupO, lk1, lk2]
 congr 1
theorem keyD_str : keyD .str .str = true := rfl
theorem keyD_bool : keyD .bool .bool = true := rfl
theorem keyD_int (k k' : IntKind) : keyD (.int k) (.int k') = decide (k = k') := rfl
theorem isAggT_agg (l : Ty) : Ty.isAggT (.agg l) = true := rfl
theorem isAggT_bool : Ty.isAggT .bool = false := rfl
theorem isAggT_int (k : IntKind) : Ty.isAggT (.int k) = false := rfl
theorem isAggT_str : Ty.isAggT .str = false := rfl
theorem isAggT_slice (t : Ty) : Ty.isAggT (.slice t) = false := rfl
theorem isAggV_agg (vs : List AV) : AV.isAggV (.agg vs) = true := rfl
theorem isAggV_d (t : Ty) (x : t.Den) : AV.isAggV (.d t x) = false := rfl
theorem okV_true (b : Bool) (v : AV) : okV true b v = .tuple [v, .d .bool b] := rfl
theorem okV_false (b : Bool) (v : AV) : okV false b v = v := rfl
def mu2 (s : Slots) (h : Heap) (id : Nat) (o : Obj) : St := ⟨s, h.put id o⟩
theorem mu2_eq (id : Nat) (o : Obj) : mu2 s h id o = ⟨s, h.put id o⟩ := rfl
def mu1 (E : Env) (s : Slots) (h : Heap) (m k v : AV) (ti : TI) : Option St := match ti.desc, m with
 | .map a _, .mp id => (updO E a k v (h.get id)).map (mu2 s h id)
 | _, _ => none
theorem mu1_mp (id a b n z : Nat) (k v : AV) : mu1 E s h (.mp id) k v ⟨.map a b, n, z⟩ = (updO E a k v (h.get id)).map (mu2 s h id) := rfl
def up3 (tk tv : Ty) (kvs : List (tk.Den × tv.Den)) (key : tk.Den) (x : tv.Den × List AV) : Option Obj := if x.2.isEmpty = true then some (.mp tk tv (updL key x.1 kvs)) else none

def up2 (tk tv : Ty) (kvs : List (tk.Den × tv.Den)) (v : AV) (key : tk.Den) : Option Obj := (unflat tv v.cells).bind (up3 tk tv kvs key)
theorem up2_eq (tk tv : Ty) (kvs : List (tk.Den × tv.Den)) (v : AV) (key : tk.Den) : up2 tk tv kvs v key = (unflat tv v.cells).bind (up3 tk tv kvs key) := rfl
def up1 (tk tv : Ty) (kvs : List (tk.Den × tv.Den)) (k v : AV) (ki : TI) : Option Obj := if keyD ki.desc tk = true ∧ v.isAggV = tv.isAggT ∧ v.isUndef = false then (asDen tk k).bind (up2 tk tv kvs v) else none
theorem up1_mk (tk tv : Ty) (kvs : List (tk.Den × tv.Den)) (k v : AV) (td : TD) (n m : Nat) : up1 tk tv kvs k v ⟨td, n, m⟩ = if keyD td tk = true ∧ v.isAggV = tv.isAggT ∧ v.isUndef = false then (asDen tk k).bind (up2 tk tv kvs v) else none := rfl
theorem updO_mp (a : Nat) (k v : AV) (tk tv : Ty) (kvs : List (tk.Den × tv.Den)) : updO E a k v (some (.mp tk tv kvs)) = (E.tab a).bind (up1 tk tv kvs k v) := rfl
def isIntV : AV → Bool
 | .d (.int _) _ => true
 | _ => false
theorem isIntV_int (k : IntKind) (n : Int) : isIntV (.d (.int k) n) = true := rfl
def mm3 (s : Slots) (h : Heap) (id : Nat) (tk tv : Ty) : AV × St := (.mp id, St.alloc ⟨s, h⟩ id (.mp tk tv []))
theorem mm3_eq (id : Nat) (tk tv : Ty) : mm3 s h id tk tv = (.mp id, St.alloc ⟨s, h⟩ id (.mp tk tv [])) := rfl
def mm2 (E : Env) (s : Slots) (h : Heap) (id e : Nat) (tk : Ty) : Option (AV × St) := (E.ty e).map (mm3 s h id tk)
theorem mm2_eq (id e : Nat) (tk : Ty) : mm2 E s h id e tk = (E.ty e).map (mm3 s h id tk) := rfl
def mm1 (E : Env) (s : Slots) (h : Heap) (id : Nat) (ti : TI) : Option (AV × St) := match ti.desc with
 | .map k e => (E.ty k).bind (mm2 E s h id e)
 | _ => none
theorem mm1_mk (id k e n m : Nat) : mm1 E s h id ⟨.map k e, n, m⟩ = (E.ty k).bind (mm2 E s h id e) := rfl
def apR2 (id : Nat) (t : Ty) (bytes : Nat) (x y : AV) (st : St) : Option (AV × St) := (listOf st.heap t y).bind fun ys => appendTo st id t bytes ys x
theorem apR2_mk (id : Nat) (t : Ty) (bytes : Nat) (x y : AV) : apR2 id t bytes x y ⟨s, h⟩ = (listOf h t y).bind (apTo id t bytes s h x) := rfl
def apR1 (id : Nat) (t : Ty) (bytes : Nat) (x : AV) (j : Nat) (y : AV) (st : St) : Option (AV × St) := apR2 id t bytes x y (frIn st.tmps st.heap j (st.heap.get j))
theorem apR1_mk (id : Nat) (t : Ty) (bytes : Nat) (x : AV) (j : Nat) (y : AV) : apR1 id t bytes x j y ⟨s, h⟩ = apR2 id t bytes x y (frIn s h j (h.get j)) := rfl
theorem up3_any (tk tv : Ty) (kvs : List (tk.Den × tv.Den)) (key : tk.Den) (x : tv.Den × List AV) : up3 tk tv kvs key x = if x.2.isEmpty = true then some (.mp tk tv (updL key x.1 kvs)) else none := rfl
theorem lk4_nb (b : Nat) (ok : Bool) (te : TI) : lk4 E b ok .bool te (@none Bool) = (zeros E.tab 8 b).bind (lk5 te ok) := rfl
theorem lk4_sb (b : Nat) (ok : Bool) (te : TI) (x : Bool) : lk4 E b ok .bool te (@some Bool x) = (mkV te [.d .bool x]).map (okV ok true) := rfl
theorem lk4_ni (b : Nat) (ok : Bool) (k : IntKind) (te : TI) : lk4 E b ok (.int k) te (@none Int) = (zeros E.tab 8 b).bind (lk5 te ok) := rfl
theorem lk4_si (b : Nat) (ok : Bool) (k : IntKind) (te : TI) (x : Int) : lk4 E b ok (.int k) te (@some Int x) = (mkV te [.d (.int k) x]).map (okV ok true) := rfl

theorem bldOf_bool  (tab : Nat → Option TI) (T sz by_ : Nat) : bldOf tab T ⟨.bool, sz, by_⟩ = none := rfl
theorem bld2_bool  (tab : Nat → Option TI) (T b0 sz by_ : Nat) : bld2 tab T b0 ⟨.bool, sz, by_⟩ = none := rfl
theorem bld3_bool  (tab : Nat → Option TI) (sz by_ : Nat) : bld3 tab ⟨.bool, sz, by_⟩ = none := rfl
theorem bld4_bool  (e0 sz by_ : Nat) : bld4 e0 ⟨.bool, sz, by_⟩ = none := rfl
theorem bld2_str  (tab : Nat → Option TI) (T b0 sz by_ : Nat) : bld2 tab T b0 ⟨.str, sz, by_⟩ = none := rfl
theorem bld3_str  (tab : Nat → Option TI) (sz by_ : Nat) : bld3 tab ⟨.str, sz, by_⟩ = none := rfl
theorem bld4_str  (e0 sz by_ : Nat) : bld4 e0 ⟨.str, sz, by_⟩ = none := rfl
theorem bld2_err  (tab : Nat → Option TI) (T b0 sz by_ : Nat) : bld2 tab T b0 ⟨.err, sz, by_⟩ = none := rfl
theorem bld3_err  (tab : Nat → Option TI) (sz by_ : Nat) : bld3 tab ⟨.err, sz, by_⟩ = none := rfl
theorem bld4_err  (e0 sz by_ : Nat) : bld4 e0 ⟨.err, sz, by_⟩ = none := rfl
theorem bld2_func  (tab : Nat → Option TI) (T b0 sz by_ : Nat) : bld2 tab T b0 ⟨.func, sz, by_⟩ = none := rfl
theorem bld3_func  (tab : Nat → Option TI) (sz by_ : Nat) : bld3 tab ⟨.func, sz, by_⟩ = none := rfl
theorem bld4_func  (e0 sz by_ : Nat) : bld4 e0 ⟨.func, sz, by_⟩ = none := rfl
theorem bld2_other  (tab : Nat → Option TI) (T b0 sz by_ : Nat) : bld2 tab T b0 ⟨.other, sz, by_⟩ = none := rfl
theorem bld3_other  (tab : Nat → Option TI) (sz by_ : Nat) : bld3 tab ⟨.other, sz, by_⟩ = none := rfl
theorem bld4_other  (e0 sz by_ : Nat) : bld4 e0 ⟨.other, sz, by_⟩ = none := rfl
theorem bldOf_int (k : IntKind) (tab : Nat → Option TI) (T sz by_ : Nat) : bldOf tab T ⟨(.int k), sz, by_⟩ = none := rfl
theorem bld2_int (k : IntKind) (tab : Nat → Option TI) (T b0 sz by_ : Nat) : bld2 tab T b0 ⟨(.int k), sz, by_⟩ = none := rfl
theorem bld3_int (k : IntKind) (tab : Nat → Option TI) (sz by_ : Nat) : bld3 tab ⟨(.int k), sz, by_⟩ = none := rfl
theorem bld4_int (k : IntKind) (e0 sz by_ : Nat) : bld4 e0 ⟨(.int k), sz, by_⟩ = if k = .u8 then some e0 else none := rfl
theorem bldOf_slice (e : Nat) (tab : Nat → Option TI) (T sz by_ : Nat) : bldOf tab T ⟨(.slice e), sz, by_⟩ = none := rfl
theorem bld2_slice (e : Nat) (tab : Nat → Option TI) (T b0 sz by_ : Nat) : bld2 tab T b0 ⟨(.slice e), sz, by_⟩ = none := rfl
theorem bld3_slice (e : Nat) (tab : Nat → Option TI) (sz by_ : Nat) : bld3 tab ⟨(.slice e), sz, by_⟩ = (tab e).bind (bld4 e) := rfl
theorem bld4_slice (e : Nat) (e0 sz by_ : Nat) : bld4 e0 ⟨(.slice e), sz, by_⟩ = none := rfl
theorem bldOf_struct (fs : List (Nat × Nat)) (tab : Nat → Option TI) (T sz by_ : Nat) : bldOf tab T ⟨(.struct fs), sz, by_⟩ = bld1 tab T fs := rfl
theorem bld2_struct (fs : List (Nat × Nat)) (tab : Nat → Option TI) (T b0 sz by_ : Nat) : bld2 tab T b0 ⟨(.struct fs), sz, by_⟩ = none := rfl
theorem bld3_struct (fs : List (Nat × Nat)) (tab : Nat → Option TI) (sz by_ : Nat) : bld3 tab ⟨(.struct fs), sz, by_⟩ = none := rfl
theorem bld4_struct (fs : List (Nat × Nat)) (e0 sz by_ : Nat) : bld4 e0 ⟨(.struct fs), sz, by_⟩ = none := rfl
theorem bld2_arr (n e : Nat) (tab : Nat → Option TI) (T b0 sz by_ : Nat) : bld2 tab T b0 ⟨(.arr n e), sz, by_⟩ = none := rfl
theorem bld3_arr (n e : Nat) (tab : Nat → Option TI) (sz by_ : Nat) : bld3 tab ⟨(.arr n e), sz, by_⟩ = none := rfl
theorem bld4_arr (n e : Nat) (e0 sz by_ : Nat) : bld4 e0 ⟨(.arr n e), sz, by_⟩ = none := rfl
theorem bldOf_ptr (e : Nat) (tab : Nat → Option TI) (T sz by_ : Nat) : bldOf tab T ⟨(.ptr e), sz, by_⟩ = none := rfl
theorem bld2_ptr (e : Nat) (tab : Nat → Option TI) (T b0 sz by_ : Nat) : bld2 tab T b0 ⟨(.ptr e), sz, by_⟩ = if e = T then (tab b0).bind (bld3 tab) else none := rfl
theorem bld3_ptr (e : Nat) (tab : Nat → Option TI) (sz by_ : Nat) : bld3 tab ⟨(.ptr e), sz, by_⟩ = none := rfl
theorem bld4_ptr (e : Nat) (e0 sz by_ : Nat) : bld4 e0 ⟨(.ptr e), sz, by_⟩ = none := rfl
theorem bld2_map (k e : Nat) (tab : Nat → Option TI) (T b0 sz by_ : Nat) : bld2 tab T b0 ⟨(.map k e), sz, by_⟩ = none := rfl
theorem bld3_map (k e : Nat) (tab : Nat → Option TI) (sz by_ : Nat) : bld3 tab ⟨(.map k e), sz, by_⟩ = none := rfl
theorem bld4_map (k e : Nat) (e0 sz by_ : Nat) : bld4 e0 ⟨(.map k e), sz, by_⟩ = none := rfl
theorem bld1_nil (tab : Nat → Option TI) (T : Nat) : bld1 tab T [] = none := rfl
theorem bld1_one (tab : Nat → Option TI) (T : Nat) (f : Nat × Nat) : bld1 tab T [f] = none := rfl
theorem bld1_two (tab : Nat → Option TI) (T a b i j : Nat) (gs : List (Nat × Nat)) : bld1 tab T ((a, i) :: (b, j) :: gs) = if gs.isEmpty = true ∧ a = 0 ∧ b = 1 then (tab i).bind (bld2 tab T j) else none := rfl
theorem varOf_none (T : Nat) (z : List AV) : varOf T z none = .box z := rfl
theorem varOf_some (T e : Nat) : varOf T [.nilP, .nilS] (some e) = .bld false T e .empty := rfl

end
end Go.Q
