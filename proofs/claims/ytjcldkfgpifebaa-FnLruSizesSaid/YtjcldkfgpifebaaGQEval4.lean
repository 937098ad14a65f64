/- An abstract interpreter of the translated code: the last equations for evaluation, and the set of them all. -/
import Derived.Test.YtjcldkfgpifebaaGQEval3
namespace Go.Q
set_option linter.unusedVariables false
set_option linter.unusedSimpArgs false
set_option linter.unusedSectionVars false
open Go
section
variable {E : Env} {s : Slots} {h : Heap}
theorem lentFrom_eq : lentFrom = 1000000 := rfl
/-! what falls away -/
def gcW (s : Slots) (h0 : Heap) : Heap → Heap
  | [] => []
  | (i, o) :: h => if (decide (lentFrom ≤ i) || (Slots.leads i s || Heap.leads i h0)) = true then (i, o) :: gcW s h0 h else gcW s h0 h
theorem gcW_nil (h0 : Heap) : gcW s h0 [] = [] := rfl
theorem gcW_cons (h0 : Heap) (i : Nat) (o : Obj) : gcW s h0 ((i, o) :: h) = if (decide (lentFrom ≤ i) || (Slots.leads i s || Heap.leads i h0)) = true then (i, o) :: gcW s h0 h else gcW s h0 h := rfl
theorem gc1_eq : gc1 s h = gcW s h h := by
  unfold gc1
  have : ∀ h0 h : Heap, h.keepIf (fun i => decide (lentFrom ≤ i) || Slots.leads i s || Heap.leads i h0) = gcW s h0 h := by
    intro h0 h
    induction h with
    | nil => rfl
    | cons x h ih =>
      obtain ⟨i, o⟩ := x
      rw [Heap.keepIf, gcW_cons, ih, Bool.or_assoc]
  exact this h h
theorem hl_nil (i : Nat) : Heap.leads i [] = false := rfl
theorem hl_box (i j : Nat) (vs : List AV) : Heap.leads i ((j, .box vs) :: h) = (AV.leadss i vs || Heap.leads i h) := rfl
theorem hl_arr (i j : Nat) (m d : Bool) (t : Ty) (xs : List t.Den) : Heap.leads i ((j, .arr m d t xs) :: h) = Heap.leads i h := rfl
theorem hl_mp (i j : Nat) (tk tv : Ty) (kvs : List (tk.Den × tv.Den)) : Heap.leads i ((j, .mp tk tv kvs) :: h) = Heap.leads i h := rfl
theorem hl_bld (i j : Nat) (d : Bool) (T e : Nat) (b : ByteArray) : Heap.leads i ((j, .bld d T e b) :: h) = Heap.leads i h := rfl
theorem hl_dead (i j : Nat) : Heap.leads i ((j, .dead) :: h) = Heap.leads i h := rfl
theorem sl_nil (i : Nat) : Slots.leads i [] = false := rfl
theorem sl_cons (i t : Nat) (v : AV) : Slots.leads i ((t, v) :: s) = (v.leads i || Slots.leads i s) := rfl
theorem vl_os (i : Nat) (p : Pl) : AV.leads i (.os p) = (p.id == i) := by rw [AV.leads]
theorem vl_sub (i : Nat) (p : Pl) (a n : Nat) : AV.leads i (.sub p a n) = (p.id == i) := by rw [AV.leads]
theorem vl_el (i : Nat) (p : Pl) (a n : Nat) : AV.leads i (.el p a n) = (p.id == i) := by rw [AV.leads]
theorem vl_op (i j a : Nat) : AV.leads i (.op j a) = (j == i) := by rw [AV.leads]
theorem vl_mp (i j : Nat) : AV.leads i (.mp j) = (j == i) := by rw [AV.leads]
theorem vl_rp (i : Nat) (vs : List AV) : AV.leads i (.rp vs) = AV.leadss i vs := by rw [AV.leads]
theorem vl_agg (i : Nat) (vs : List AV) : AV.leads i (.agg vs) = AV.leadss i vs := by rw [AV.leads]
theorem vl_tuple (i : Nat) (vs : List AV) : AV.leads i (.tuple vs) = AV.leadss i vs := by rw [AV.leads]
theorem vl_fn (i f : Nat) (vs : List AV) : AV.leads i (.fn f vs) = AV.leadss i vs := by rw [AV.leads]
theorem vl_d (i : Nat) (t : Ty) (x : t.Den) : AV.leads i (.d t x) = false := by simp [AV.leads]
theorem vl_undef (i : Nat) : AV.leads i .undef = false := by simp [AV.leads]
theorem vl_skip (i : Nat) : AV.leads i .skip = false := by simp [AV.leads]
theorem vl_nilS (i : Nat) : AV.leads i .nilS = false := by simp [AV.leads]
theorem vl_empS (i : Nat) : AV.leads i .empS = false := by simp [AV.leads]
theorem vl_nilF (i : Nat) : AV.leads i .nilF = false := by simp [AV.leads]
theorem vl_nilP (i : Nat) : AV.leads i .nilP = false := by simp [AV.leads]
theorem vl_nilM (i : Nat) : AV.leads i .nilM = false := by simp [AV.leads]
theorem vls_nil (i : Nat) : AV.leadss i [] = false := by rw [AV.leadss]
theorem vls_cons (i : Nat) (v : AV) (vs : List AV) : AV.leadss i (v :: vs) = (AV.leads i v || AV.leadss i vs) := by rw [AV.leadss]
/-! do they lead to memory -/
theorem ow_os (p : Pl) : AV.owned (.os p) = true := by rw [AV.owned]
theorem ow_sub (p : Pl) (a n : Nat) : AV.owned (.sub p a n) = true := by rw [AV.owned]
theorem ow_el (p : Pl) (a n : Nat) : AV.owned (.el p a n) = true := by rw [AV.owned]
theorem ow_op (j a : Nat) : AV.owned (.op j a) = true := by rw [AV.owned]
theorem ow_mp (j : Nat) : AV.owned (.mp j) = true := by rw [AV.owned]
theorem ow_rp (vs : List AV) : AV.owned (.rp vs) = AV.owneds vs := by rw [AV.owned]
theorem ow_agg (vs : List AV) : AV.owned (.agg vs) = AV.owneds vs := by rw [AV.owned]
theorem ow_tuple (vs : List AV) : AV.owned (.tuple vs) = AV.owneds vs := by rw [AV.owned]
theorem ow_fn (f : Nat) (vs : List AV) : AV.owned (.fn f vs) = AV.owneds vs := by rw [AV.owned]
theorem ow_d (t : Ty) (x : t.Den) : AV.owned (.d t x) = false := by simp [AV.owned]
theorem ow_undef : AV.owned .undef = false := by simp [AV.owned]
theorem ow_skip : AV.owned .skip = false := by simp [AV.owned]
theorem ow_nilS : AV.owned .nilS = false := by simp [AV.owned]
theorem ow_empS : AV.owned .empS = false := by simp [AV.owned]
theorem ow_nilF : AV.owned .nilF = false := by simp [AV.owned]
theorem ow_nilP : AV.owned .nilP = false := by simp [AV.owned]
theorem ow_nilM : AV.owned .nilM = false := by simp [AV.owned]
theorem ows_nil : AV.owneds [] = false := by rw [AV.owneds]
theorem ows_cons (v : AV) (vs : List AV) : AV.owneds (v :: vs) = (AV.owned v || AV.owneds vs) := by rw [AV.owneds]
theorem sh_d (t : Ty) (x : t.Den) : AV.shares (.d t x) = t.refs := by rw [AV.shares]
theorem sh_rp (vs : List AV) : AV.shares (.rp vs) = true := by rw [AV.shares]
theorem sh_agg (vs : List AV) : AV.shares (.agg vs) = AV.sharess vs := by rw [AV.shares]
theorem sh_tuple (vs : List AV) : AV.shares (.tuple vs) = AV.sharess vs := by rw [AV.shares]
theorem sh_fn (f : Nat) (vs : List AV) : AV.shares (.fn f vs) = AV.sharess vs := by rw [AV.shares]
theorem sh_os (p : Pl) : AV.shares (.os p) = false := by simp [AV.shares]
theorem sh_sub (p : Pl) (a n : Nat) : AV.shares (.sub p a n) = false := by simp [AV.shares]
theorem sh_el (p : Pl) (a n : Nat) : AV.shares (.el p a n) = false := by simp [AV.shares]
theorem sh_op (j a : Nat) : AV.shares (.op j a) = false := by simp [AV.shares]
theorem sh_mp (j : Nat) : AV.shares (.mp j) = false := by simp [AV.shares]
theorem sh_undef : AV.shares .undef = false := by simp [AV.shares]
theorem sh_skip : AV.shares .skip = false := by simp [AV.shares]
theorem sh_nilS : AV.shares .nilS = false := by simp [AV.shares]
theorem sh_empS : AV.shares .empS = false := by simp [AV.shares]
theorem sh_nilF : AV.shares .nilF = false := by simp [AV.shares]
theorem sh_nilP : AV.shares .nilP = false := by simp [AV.shares]
theorem sh_nilM : AV.shares .nilM = false := by simp [AV.shares]
theorem shs_nil : AV.sharess [] = false := by rw [AV.sharess]
theorem shs_cons (v : AV) (vs : List AV) : AV.sharess (v :: vs) = (AV.shares v || AV.sharess vs) := by rw [AV.sharess]
theorem osh_arr (m d : Bool) (t : Ty) (xs : List t.Den) : Obj.shares (.arr m d t xs) = if d = true then t.refs2 else t.refs := rfl
theorem osh_box (vs : List AV) : Obj.shares (.box vs) = AV.sharess vs := rfl
theorem osh_bld (d : Bool) (T e : Nat) (b : ByteArray) : Obj.shares (.bld d T e b) = false := rfl
theorem osh_dead : Obj.shares .dead = false := rfl
theorem osh_mp (tk tv : Ty) (kvs : List (tk.Den × tv.Den)) : Obj.shares (.mp tk tv kvs) = (tk.refs || tv.refs) := rfl
theorem hsh_nil : Heap.shares [] = false := rfl
theorem hsh_cons (i : Nat) (o : Obj) : Heap.shares ((i, o) :: h) = (o.shares || Heap.shares h) := rfl
theorem ro_os (p : Pl) : refsOf (.os p) = [.a p] := by rw [refsOf]
theorem ro_sub (p : Pl) (a n : Nat) : refsOf (.sub p a n) = [.a p] := by rw [refsOf]
theorem ro_el (p : Pl) (a n : Nat) : refsOf (.el p a n) = [.a p] := by rw [refsOf]
theorem ro_op (j a : Nat) : refsOf (.op j a) = [.b j] := by rw [refsOf]
theorem ro_mp (j : Nat) : refsOf (.mp j) = [.b j] := by rw [refsOf]
theorem ro_rp (vs : List AV) : refsOf (.rp vs) = refsOfs vs := by rw [refsOf]
theorem ro_agg (vs : List AV) : refsOf (.agg vs) = refsOfs vs := by rw [refsOf]
theorem ro_tuple (vs : List AV) : refsOf (.tuple vs) = refsOfs vs := by rw [refsOf]
theorem ro_fn (f : Nat) (vs : List AV) : refsOf (.fn f vs) = refsOfs vs := by rw [refsOf]
theorem ro_d (t : Ty) (x : t.Den) : refsOf (.d t x) = [] := by simp [refsOf]
theorem ro_undef : refsOf .undef = [] := by simp [refsOf]
theorem ro_nilS : refsOf .nilS = [] := by simp [refsOf]
theorem ro_empS : refsOf .empS = [] := by simp [refsOf]
theorem ro_nilF : refsOf .nilF = [] := by simp [refsOf]
theorem ro_nilP : refsOf .nilP = [] := by simp [refsOf]
theorem ro_nilM : refsOf .nilM = [] := by simp [refsOf]
theorem ros_nil : refsOfs [] = [] := by rw [refsOfs]
theorem ros_cons (v : AV) (vs : List AV) : refsOfs (v :: vs) = refsOf v ++ refsOfs vs := by rw [refsOfs]
/-! arguments as plain data -/
def argBox (h : Heap) (m off : Nat) : Option Obj → Option AV
  | some (.box vs) => (mapO (argOf h m) (vs.drop off)).map .rp
  | _ => none
theorem ao_os (m : Nat) (p : Pl) : argOf h (m + 1) (.os p) = h.arrAt p := by rw [argOf]
theorem ao_sub (m : Nat) (p : Pl) (a n : Nat) : argOf h (m + 1) (.sub p a n) = (h.arrAt p).bind (cutO a n) := by rw [argOf]
theorem ao_el (m : Nat) (p : Pl) (i off : Nat) : argOf h (m + 1) (.el p i off) = (h.arrAt p).bind (elO i off) := by rw [argOf]
theorem ao_op (m id off : Nat) : argOf h (m + 1) (.op id off) = argBox h m off (h.get id) := by
  rw [argOf]
  simp only [argBox]
  cases h.get id with
  | none => rfl
  | some o => cases o <;> rfl
theorem argBox_box (m off : Nat) (vs : List AV) : argBox h m off (some (.box vs)) = (mapO (argOf h m) (vs.drop off)).map .rp := rfl
theorem ao_rp (m : Nat) (vs : List AV) : argOf h (m + 1) (.rp vs) = (mapO (argOf h m) vs).map .rp := by rw [argOf]
theorem ao_agg (m : Nat) (vs : List AV) : argOf h (m + 1) (.agg vs) = (mapO (argOf h m) vs).map .agg := by rw [argOf]
theorem ao_fn (m : Nat) (f : Nat) (vs : List AV) : argOf h (m + 1) (.fn f vs) = (mapO (argOf h m) vs).map (.fn f) := by rw [argOf]
theorem ao_d (m : Nat) (t : Ty) (x : t.Den) : argOf h (m + 1) (.d t x) = some (.d t x) := by simp [argOf]
theorem ao_nilS (m : Nat) : argOf h (m + 1) .nilS = some .nilS := by simp [argOf]
theorem ao_empS (m : Nat) : argOf h (m + 1) .empS = some .empS := by simp [argOf]
theorem ao_nilF (m : Nat) : argOf h (m + 1) .nilF = some .nilF := by simp [argOf]
theorem ao_nilP (m : Nat) : argOf h (m + 1) .nilP = some .nilP := by simp [argOf]
theorem ao_nilM (m : Nat) : argOf h (m + 1) .nilM = some .nilM := by simp [argOf]
/-! results -/
theorem sb_nil : subsOf [] = [] := rfl
theorem sb_agg (us vs : List AV) : subsOf (.agg us :: vs) = us.flatMap subOf1 ++ subsOf vs := rfl
theorem sb1_os (p : Pl) : subOf1 (.os p) = [] := rfl
theorem sb_os (p : Pl) (vs : List AV) : subsOf ((.os p) :: vs) = [] ++ subsOf vs := rfl
theorem sb1_sub (i a n : Nat) : subOf1 (.sub (.t i) a n) = [(i, a, n)] := rfl
theorem sb_sub (i a n : Nat) (vs : List AV) : subsOf ((.sub (.t i) a n) :: vs) = [(i, a, n)] ++ subsOf vs := rfl
theorem sb1_subn (i j o a n : Nat) : subOf1 (.sub (.n i j o) a n) = [] := rfl
theorem sb_subn (i j o a n : Nat) (vs : List AV) : subsOf ((.sub (.n i j o) a n) :: vs) = [] ++ subsOf vs := rfl
theorem sb1_el (p : Pl) (i o : Nat) : subOf1 (.el p i o) = [] := rfl
theorem sb_el (p : Pl) (i o : Nat) (vs : List AV) : subsOf ((.el p i o) :: vs) = [] ++ subsOf vs := rfl
theorem sb1_op (i o : Nat) : subOf1 (.op i o) = [] := rfl
theorem sb_op (i o : Nat) (vs : List AV) : subsOf ((.op i o) :: vs) = [] ++ subsOf vs := rfl
theorem sb1_mp (i : Nat) : subOf1 (.mp i) = [] := rfl
theorem sb_mp (i : Nat) (vs : List AV) : subsOf ((.mp i) :: vs) = [] ++ subsOf vs := rfl
theorem sb1_rp (us : List AV) : subOf1 (.rp us) = [] := rfl
theorem sb_rp (us : List AV) (vs : List AV) : subsOf ((.rp us) :: vs) = [] ++ subsOf vs := rfl
theorem sb1_fn (f : Nat) (us : List AV) : subOf1 (.fn f us) = [] := rfl
theorem sb_fn (f : Nat) (us : List AV) (vs : List AV) : subsOf ((.fn f us) :: vs) = [] ++ subsOf vs := rfl
theorem sb1_d (t : Ty) (x : t.Den) : subOf1 (.d t x) = [] := rfl
theorem sb_d (t : Ty) (x : t.Den) (vs : List AV) : subsOf ((.d t x) :: vs) = [] ++ subsOf vs := rfl
theorem sb1_undef : subOf1 .undef = [] := rfl
theorem sb_undef  (vs : List AV) : subsOf (.undef :: vs) = [] ++ subsOf vs := rfl
theorem sb1_nilS  : subOf1 .nilS = [] := rfl
theorem sb_nilS  (vs : List AV) : subsOf (.nilS :: vs) = [] ++ subsOf vs := rfl
theorem sb1_empS  : subOf1 .empS = [] := rfl
theorem sb_empS  (vs : List AV) : subsOf (.empS :: vs) = [] ++ subsOf vs := rfl
theorem sb1_nilF  : subOf1 .nilF = [] := rfl
theorem sb_nilF  (vs : List AV) : subsOf (.nilF :: vs) = [] ++ subsOf vs := rfl
theorem sb1_nilP  : subOf1 .nilP = [] := rfl
theorem sb_nilP  (vs : List AV) : subsOf (.nilP :: vs) = [] ++ subsOf vs := rfl
theorem sb1_nilM  : subOf1 .nilM = [] := rfl
theorem sb_nilM  (vs : List AV) : subsOf (.nilM :: vs) = [] ++ subsOf vs := rfl
def shrK (id a n : Nat) (l : List (Nat × Nat × Nat)) (vs : List AV) (h : Heap) : Option Obj → List AV × Heap
  | some (.arr true false t xs) => if AV.leadss id vs = true ∧ a + n ≤ xs.length ∧ a < xs.length then shrinks l (AV.mapRs (shrinkF id a n) vs) ((Heap.mapR (shrinkF id a n) h).put id (.arr true false t ((xs.drop a).take n))) else shrinks l vs h
  | _ => shrinks l vs h
theorem shrinks_cons (id a n : Nat) (l : List (Nat × Nat × Nat)) (vs : List AV) : shrinks ((id, a, n) :: l) vs h = shrK id a n l vs h (h.get id) := by
  rw [shrinks]
  unfold shrK
  cases h.get id with
  | none => rfl
  | some o =>
    cases o with
    | arr m d t xs => cases m <;> cases d <;> rfl
    | _ => rfl
theorem shrK_arr (id a n : Nat) (l : List (Nat × Nat × Nat)) (vs : List AV) (t : Ty) (xs : List t.Den) : shrK id a n l vs h (some (.arr true false t xs)) = if AV.leadss id vs = true ∧ a + n ≤ xs.length ∧ a < xs.length then shrinks l (AV.mapRs (shrinkF id a n) vs) ((Heap.mapR (shrinkF id a n) h).put id (.arr true false t ((xs.drop a).take n))) else shrinks l vs h := rfl
theorem shrK_still (id a n : Nat) (l : List (Nat × Nat × Nat)) (vs : List AV) (d : Bool) (t : Ty) (xs : List t.Den) : shrK id a n l vs h (some (.arr false d t xs)) = shrinks l vs h := rfl
theorem shrK_deep (id a n : Nat) (l : List (Nat × Nat × Nat)) (vs : List AV) (m : Bool) (t : Ty) (xs : List t.Den) : shrK id a n l vs h (some (.arr m true t xs)) = shrinks l vs h := by cases m <;> rfl
theorem shrK_none (id a n : Nat) (l : List (Nat × Nat × Nat)) (vs : List AV) : shrK id a n l vs h none = shrinks l vs h := rfl
/-! elements -/
theorem fl_nil (x : Unit) : flat .nil x = [] := rfl
theorem fl_cons (a b : Ty) (x : (Ty.cons a b).Den) : flat (.cons a b) x = flat a x.1 ++ flat b x.2 := rfl
theorem fl_agg (l : Ty) (x : l.Den) : flat (.agg l) x = flat l x := rfl
theorem fl_int (k : IntKind) (x : Int) : flat (.int k) x = [.d (.int k) x] := rfl
theorem fl_bool (x : Bool) : flat .bool x = [.d .bool x] := rfl
theorem fl_str (x : ByteArray) : flat .str x = [.d .str x] := rfl
theorem fl_err (x : Bool) : flat .err x = [.d .err x] := rfl
theorem fl_slice (t : Ty) (x : List t.Den) : flat (.slice t) x = [.d (.slice t) x] := rfl
theorem fl_ptr (t : Ty) (x : t.Den) : flat (.ptr t) x = [.rp (flat t x)] := rfl
def unf2 (b : Ty) (α : Type) (r : α × List AV) : Option ((α × b.Den) × List AV) := (unflat b r.2).map fun s => ((r.1, s.1), s.2)
def unf3 {α β : Type} (x : α) (s : β × List AV) : (α × β) × List AV := ((x, s.1), s.2)
theorem unf3_mk {α β : Type} (x : α) (y : β) (vs : List AV) : unf3 x (y, vs) = ((x, y), vs) := rfl
theorem unf2_mk (b : Ty) (α : Type) (x : α) (vs : List AV) : unf2 b α (x, vs) = (unflat b vs).map (unf3 x) := rfl
theorem un_nil (vs : List AV) : unflat .nil vs = some ((), vs) := by rw [unflat]
theorem un_cons (a b : Ty) (vs : List AV) : unflat (.cons a b) vs = (unflat a vs).bind (unf2 b a.Den) := by rw [unflat]; rfl
theorem un_agg (l : Ty) (vs : List AV) : unflat (.agg l) vs = unflat l vs := by rw [unflat]
def withR {α : Type} (vs : List AV) (x : α) : α × List AV := (x, vs)
theorem withR_eq {α : Type} (vs : List AV) (x : α) : withR vs x = (x, vs) := rfl
theorem un_int (k : IntKind) (v : AV) (vs : List AV) : unflat (.int k) (v :: vs) = (asDen (.int k) v).map (withR vs) := by rw [unflat]; rfl
theorem un_bool (v : AV) (vs : List AV) : unflat .bool (v :: vs) = (asDen .bool v).map (withR vs) := by rw [unflat]; rfl
theorem un_str (v : AV) (vs : List AV) : unflat .str (v :: vs) = (asDen .str v).map (withR vs) := by rw [unflat]; rfl
theorem un_err (v : AV) (vs : List AV) : unflat .err (v :: vs) = (asDen .err v).map (withR vs) := by rw [unflat]; rfl
theorem un_slice (t : Ty) (v : AV) (vs : List AV) : unflat (.slice t) (v :: vs) = (asList t v).map (withR vs) := by rw [unflat]; rfl
theorem asList_nilS (t : Ty) : asList t .nilS = some [] := rfl
theorem asList_empS (t : Ty) : asList t .empS = some [] := rfl
def elems2 (t : Ty) (vs : List (List AV)) (x : t.Den) : Option (List t.Den) := (elems t vs).map (List.cons x)
theorem elems2_eq (t : Ty) (vs : List (List AV)) (x : t.Den) : elems2 t vs x = (elems t vs).map (List.cons x) := rfl
theorem elems_nil (t : Ty) : elems t [] = some [] := rfl
theorem elems_cons (t : Ty) (cs : List AV) (vs : List (List AV)) : elems t (cs :: vs) = ((unflat t cs).bind oneOnly).bind (elems2 t vs) := by
  rw [elems]
  cases unflat t cs with
  | none => rfl
  | some y => simp only [Option.bind_some, oneOnly]; split <;> rfl
theorem groups_zero (sz : Nat) (cs : List AV) : groups sz 0 cs = [] := rfl
theorem groups_succ (sz n : Nat) (cs : List AV) : groups sz (n + 1) cs = cs.take sz :: groups sz n (cs.drop sz) := rfl
theorem inOrder_nil (k : Nat) : inOrder k [] = true := rfl
theorem inOrder_cons (k j : Nat) (v : AV) (ps : List (Nat × AV)) : inOrder k ((j, v) :: ps) = (j == k && inOrder (k + 1) ps) := rfl
theorem one_d (t : Ty) (x : t.Den) : AV.isOne (.d t x) = true := rfl
theorem one_os (p : Pl) : AV.isOne (.os p) = true := rfl
theorem one_sub (p : Pl) (a n : Nat) : AV.isOne (.sub p a n) = true := rfl
theorem one_el (p : Pl) (a n : Nat) : AV.isOne (.el p a n) = true := rfl
theorem one_op (i n : Nat) : AV.isOne (.op i n) = true := rfl
theorem one_mp (i : Nat) : AV.isOne (.mp i) = true := rfl
theorem one_rp (vs : List AV) : AV.isOne (.rp vs) = true := rfl
theorem one_fn (f : Nat) (vs : List AV) : AV.isOne (.fn f vs) = true := rfl
theorem one_nilS : AV.isOne .nilS = true := rfl
theorem one_empS : AV.isOne .empS = true := rfl
theorem one_nilP : AV.isOne .nilP = true := rfl
theorem one_nilF : AV.isOne .nilF = true := rfl
theorem one_nilM : AV.isOne .nilM = true := rfl
/-! lengths, slices, conversions -/
theorem lo_d (t : Ty) (xs : List t.Den) : lenOf h (.d (.slice t) xs) = some ((List.length xs : Nat) : Int) := rfl
def natInt (n : Nat) : Int := n
theorem natInt_eq (n : Nat) : natInt n = (n : Int) := rfl
def lenN (v : AV) : Option Int := (lenAV v).map natInt
theorem lenN_d (t : Ty) (xs : List t.Den) : lenN (.d (.slice t) xs) = some ((List.length xs : Nat) : Int) := rfl
theorem lo_os (p : Pl) : lenOf h (.os p) = (h.arrAt p).bind lenN := rfl
theorem lo_sub (p : Pl) (a n : Nat) : lenOf h (.sub p a n) = some (n : Int) := rfl
theorem lo_nilS : lenOf h .nilS = some 0 := rfl
theorem lo_empS : lenOf h .empS = some 0 := rfl
def strLen : AV → Option Int
  | .d .str s => some s.size
  | _ => none
theorem strLen_d (b : ByteArray) : strLen (.d .str b) = some (b.size : Int) := rfl
def mapLen : Option Obj → Option Int
  | some (.mp _ _ kvs) => some (kvs.length : Int)
  | _ => none
theorem mapLen_mp (tk tv : Ty) (kvs : List (tk.Den × tv.Den)) : mapLen (some (.mp tk tv kvs)) = some (kvs.length : Int) := rfl
def lenMp (h : Heap) : AV → Option Int
  | .mp id => mapLen (h.get id)
  | _ => none
theorem lenMp_mp (id : Nat) : lenMp h (.mp id) = mapLen (h.get id) := rfl
def lenTI (h : Heap) (x : AV) (ti : TI) : Option Int := match ti.desc with
  | .str => strLen x
  | .slice _ => lenOf h x
  | .arr n _ => some n
  | .map _ _ => lenMp h x
  | _ => none
theorem lenTI_map (x : AV) (k e n m : Nat) : lenTI h x ⟨.map k e, n, m⟩ = lenMp h x := rfl
theorem lenT_eq (T : Nat) (x : AV) : lenT E T h x = (E.tab T).bind (lenTI h x) := by
  unfold lenT
  congr 1
theorem lenTI_str (x : AV) (n m : Nat) : lenTI h x ⟨.str, n, m⟩ = strLen x := rfl
theorem lenTI_slice (x : AV) (e n m : Nat) : lenTI h x ⟨.slice e, n, m⟩ = lenOf h x := rfl
theorem lenTI_arr (x : AV) (l e n m : Nat) : lenTI h x ⟨.arr l e, n, m⟩ = some (l : Int) := rfl
def sub0 (p : Pl) (b : Nat × Nat) : AV := .sub p b.1 (b.2 - b.1)
theorem sub0_mk (p : Pl) (a b : Nat) : sub0 p (a, b) = .sub p a (b - a) := rfl
def subA (p : Pl) (a : Nat) (b : Nat × Nat) : AV := .sub p (a + b.1) (b.2 - b.1)
theorem subA_mk (p : Pl) (c a b : Nat) : subA p c (a, b) = .sub p (c + a) (b - a) := rfl
def emp0 (_ : Nat × Nat) : AV := .empS
theorem emp0_eq (b : Nat × Nat) : emp0 b = .empS := rfl
def slOs (sz : Nat) (p : Pl) (lo hi : Option Int) : AV → Option AV
  | .d (.slice t) xs => if sz = t.size then (bounds (List.length xs) lo hi).map (sub0 p) else none
  | _ => none
theorem slOs_d (sz : Nat) (p : Pl) (lo hi : Option Int) (t : Ty) (xs : List t.Den) : slOs sz p lo hi (.d (.slice t) xs) = if sz = t.size then (bounds (List.length xs) lo hi).map (sub0 p) else none := rfl
def slSub (sz : Nat) (p : Pl) (a n : Nat) (lo hi : Option Int) : AV → Option AV
  | .d (.slice t) xs => if sz = t.size then (orB (bounds n lo hi) (bounds2 n (List.length xs - a) lo hi)).map (subA p a) else none
  | _ => none
theorem slSub_d (sz : Nat) (p : Pl) (a n : Nat) (lo hi : Option Int) (t : Ty) (xs : List t.Den) : slSub sz p a n lo hi (.d (.slice t) xs) = if sz = t.size then (orB (bounds n lo hi) (bounds2 n (List.length xs - a) lo hi)).map (subA p a) else none := rfl
theorem orB_some {α : Type} (x : α) (y : Option α) : orB (some x) y = some x := rfl
theorem orB_none {α : Type} (y : Option α) : orB none y = y := rfl
theorem orB_ite {α : Type} (p : Prop) [Decidable p] (x : α) (y : Option α) : orB (if p then some x else none) y = if p then some x else y := by split <;> rfl
theorem bounds2_eq (n m : Nat) (lo hi : Option Int) : bounds2 n m lo hi = if 0 ≤ lo.getD 0 ∧ lo.getD 0 ≤ hi.getD n ∧ hi.getD n ≤ m then some ((lo.getD 0).toNat, (hi.getD n).toNat) else none := rfl
def look3 (m : Int) : AV → Option AV
  | .d (.slice t) xs => if m ≤ List.length xs then some .undef else none
  | _ => none
theorem look3_d (m : Int) (t : Ty) (xs : List t.Den) : look3 m (.d (.slice t) xs) = if m ≤ List.length xs then some .undef else none := rfl
def look3s (m : Int) (n : Nat) : AV → Option AV
  | .d (.slice t) xs => if m ≤ n then some .undef else none
  | _ => none
theorem look3s_d (m : Int) (n : Nat) (t : Ty) (xs : List t.Den) : look3s m n (.d (.slice t) xs) = if m ≤ n then some .undef else none := rfl
def mkSl (t : Ty) (xs : List t.Den) : AV := .d (.slice t) xs
theorem mkSl_eq (t : Ty) (xs : List t.Den) : mkSl t xs = .d (.slice t) xs := rfl
theorem so_d (sz : Nat) (lo hi : Option Int) (t : Ty) (xs : List t.Den) : sliceOp h sz (.d (.slice t) xs) lo hi none = if sz = t.size then (cut xs lo hi).map (mkSl t) else none := rfl
theorem so_os (sz : Nat) (lo hi : Option Int) (p : Pl) : sliceOp h sz (.os p) lo hi none = (h.arrAt p).bind (slOs sz p lo hi) := by
  simp only [sliceOp]
  cases h.arrAt p with
  | none => rfl
  | some v =>
    cases v with
    | d t x => cases t <;> rfl
    | _ => rfl
theorem so_sub (sz : Nat) (lo hi : Option Int) (p : Pl) (a n : Nat) : sliceOp h sz (.sub p a n) lo hi none = (h.arrAt p).bind (slSub sz p a n lo hi) := by
  simp only [sliceOp]
  cases h.arrAt p with
  | none => rfl
  | some v =>
    cases v with
    | d t x => cases t <;> rfl
    | _ => rfl
theorem so_nil (sz : Nat) (lo hi : Option Int) : sliceOp h sz .nilS lo hi none = (bounds 0 lo hi).map emp0 := rfl
theorem so_emp (sz : Nat) (lo hi : Option Int) : sliceOp h sz .empS lo hi none = (bounds 0 lo hi).map emp0 := rfl
theorem so3l_d (sz : Nat) (m l r : Int) (t : Ty) (xs : List t.Den) : sliceOp h sz (.d (.slice t) xs) (some l) (some r) (some m) = if 0 ≤ l ∧ l ≤ r ∧ r ≤ m then (if m ≤ List.length xs then some .undef else none) else none := rfl
theorem so3l_os (sz : Nat) (m l r : Int) (p : Pl) : sliceOp h sz (.os p) (some l) (some r) (some m) = if 0 ≤ l ∧ l ≤ r ∧ r ≤ m then (h.arrAt p).bind (look3 m) else none := by
  simp only [sliceOp]
  cases h.arrAt p with
  | none => rfl
  | some v =>
    cases v with
    | d t x => cases t <;> rfl
    | _ => rfl
theorem so3l_sub (sz : Nat) (m l r : Int) (p : Pl) (a n : Nat) : sliceOp h sz (.sub p a n) (some l) (some r) (some m) = if 0 ≤ l ∧ l ≤ r ∧ r ≤ m then (h.arrAt p).bind (look3s m n) else none := by
  simp only [sliceOp]
  cases h.arrAt p with
  | none => rfl
  | some v =>
    cases v with
    | d t x => cases t <;> rfl
    | _ => rfl
theorem so3_d (sz : Nat) (m l : Int) (t : Ty) (xs : List t.Den) : sliceOp h sz (.d (.slice t) xs) none (some l) (some m) = if m = 0 ∧ l = 0 then some .empS else none := rfl
theorem so3_os (sz : Nat) (m l : Int) (p : Pl) : sliceOp h sz (.os p) none (some l) (some m) = if m = 0 ∧ l = 0 then some .empS else none := rfl
theorem so3_sub (sz : Nat) (m l : Int) (p : Pl) (a n : Nat) : sliceOp h sz (.sub p a n) none (some l) (some m) = if m = 0 ∧ l = 0 then some .empS else none := rfl
theorem so3_nil (sz : Nat) (m l : Int) : sliceOp h sz .nilS none (some l) (some m) = if m = 0 ∧ l = 0 then some .empS else none := rfl
theorem so3_emp (sz : Nat) (m l : Int) : sliceOp h sz .empS none (some l) (some m) = if m = 0 ∧ l = 0 then some .empS else none := rfl
theorem bounds_eq (n : Nat) (lo hi : Option Int) : bounds n lo hi = if 0 ≤ lo.getD 0 ∧ lo.getD 0 ≤ hi.getD n ∧ hi.getD n ≤ n then some ((lo.getD 0).toNat, (hi.getD n).toNat) else none := rfl
theorem cut_nn {α : Type} (xs : List α) : cut xs none none = some xs := rfl
theorem cut_sn {α : Type} (xs : List α) (l : Int) : cut xs (some l) none = if 0 ≤ l ∧ l ≤ xs.length then some (xs.drop l.toNat) else none := rfl
theorem cut_ns {α : Type} (xs : List α) (m : Int) : cut xs none (some m) = if 0 ≤ m ∧ m ≤ xs.length then some (xs.take m.toNat) else none := rfl
theorem cut_ss {α : Type} (xs : List α) (l m : Int) : cut xs (some l) (some m) = if 0 ≤ l ∧ l ≤ m ∧ m ≤ xs.length then some ((xs.drop l.toNat).take (m.toNat - l.toNat)) else none := rfl
def slEl (h : Heap) (x : AV) (lo hi mx : Option Int) (te : TI) : Option AV := sliceOp h te.size x lo hi mx
theorem slEl_mk (x : AV) (lo hi mx : Option Int) (td : TD) (n m : Nat) : slEl h x lo hi mx ⟨td, n, m⟩ = sliceOp h n x lo hi mx := rfl
def strCut (b : ByteArray) (p : Nat × Nat) : AV := .d .str (b.extract p.1 p.2)
theorem strCut_mk (b : ByteArray) (i j : Nat) : strCut b (i, j) = .d .str (b.extract i j) := rfl
def slStr (lo hi mx : Option Int) : AV → Option AV
  | .d .str s => match mx with
    | none => (bounds s.size lo hi).map (strCut s)
    | some _ => none
  | _ => none
theorem slStr_d (lo hi : Option Int) (b : ByteArray) : slStr lo hi none (.d .str b) = (bounds b.size lo hi).map (strCut b) := rfl
def slTI (E : Env) (h : Heap) (x : AV) (lo hi mx : Option Int) (ti : TI) : Option AV := match ti.desc with
    | .str => slStr lo hi mx x
    | .slice e => (E.tab e).bind (slEl h x lo hi mx)
    | _ => none
theorem slTI_slice (x : AV) (lo hi mx : Option Int) (e n m : Nat) : slTI E h x lo hi mx ⟨.slice e, n, m⟩ = (E.tab e).bind (slEl h x lo hi mx) := rfl
theorem slTI_str (x : AV) (lo hi mx : Option Int) (n m : Nat) : slTI E h x lo hi mx ⟨.str, n, m⟩ = slStr lo hi mx x := rfl
theorem sliceT_eq (T : Nat) (x : AV) (lo hi mx : Option Int) : sliceT E h T x lo hi mx = (E.tab T).bind (slTI E h x lo hi mx) := by
  unfold sliceT
  congr 1; funext ti
  unfold slTI
  cases ti.desc with
  | str =>
    simp only [slStr]
    cases mx with
    | none =>
      cases x with
      | d t x => cases t <;> rfl
      | _ => rfl
    | some m =>
      cases x with
      | d t x => cases t <;> rfl
      | _ => rfl
  | _ => rfl
def sl3 (E : Env) (h : Heap) (T : Nat) (x : AV) (l m n : Option Int) : Option AV := sliceT E h T x l m n
theorem sl3_eq (T : Nat) (x : AV) (l m n : Option Int) : sl3 E h T x l m n = sliceT E h T x l m n := rfl
def sl2 (E : Env) (h : Heap) (T : Nat) (x : AV) (s : Slots) (mx : Option Operand) (l m : Option Int) : Option AV := (optInt ⟨s, h⟩ mx).bind (sl3 E h T x l m)
theorem sl2_eq (T : Nat) (x : AV) (mx : Option Operand) (l m : Option Int) : sl2 E h T x s mx l m = (optInt ⟨s, h⟩ mx).bind (sl3 E h T x l m) := rfl
def sl1 (E : Env) (h : Heap) (T : Nat) (x : AV) (s : Slots) (hi mx : Option Operand) (l : Option Int) : Option AV := (optInt ⟨s, h⟩ hi).bind (sl2 E h T x s mx l)
theorem sl1_eq (T : Nat) (x : AV) (hi mx : Option Operand) (l : Option Int) : sl1 E h T x s hi mx l = (optInt ⟨s, h⟩ hi).bind (sl2 E h T x s mx l) := rfl
theorem ex_sl (d : Option Nat) (T : Nat) (x : Operand) (lo hi mx : Option Operand) : exOp E ⟨d, .slice T x lo hi mx, 0, "", #[], none⟩ ⟨s, h⟩ = ((optInt ⟨s, h⟩ lo).bind (sl1 E h T (eval ⟨s, h⟩ x) s hi mx)).map (St.put ⟨s, h⟩ d) := rfl
def ixArr (vs : List AV) (m : Nat) (n : Int) (te : TI) : Option AV := if 0 ≤ n ∧ n < m ∧ n.toNat * te.size + te.size ≤ vs.length then mkV te ((vs.drop (n.toNat * te.size)).take te.size) else none
theorem ixArr_mk (vs : List AV) (m : Nat) (n : Int) (td : TD) (a b : Nat) : ixArr vs m n ⟨td, a, b⟩ = if 0 ≤ n ∧ n < m ∧ n.toNat * a + a ≤ vs.length then mkV ⟨td, a, b⟩ ((vs.drop (n.toNat * a)).take a) else none := rfl
def ixTI (E : Env) (x : AV) (n : Int) (ti : TI) : Option AV := match ti.desc, x with
    | .str, .d .str b => if 0 ≤ n ∧ n < b.size then some (.d (.int .u8) (strAt b n.toNat)) else none
    | .arr m e, .agg vs => (E.tab e).bind (ixArr vs m n)
    | _, _ => none
theorem index_eq (T : Nat) (x : AV) (n : Int) : index E T x n = (E.tab T).bind (ixTI E x n) := by
  unfold index
  congr 1
theorem ixTI_str (b : ByteArray) (n : Int) (a c : Nat) : ixTI E (.d .str b) n ⟨.str, a, c⟩ = if 0 ≤ n ∧ n < b.size then some (.d (.int .u8) (strAt b n.toNat)) else none := rfl
theorem ixTI_arr (vs : List AV) (n : Int) (m e a c : Nat) : ixTI E (.agg vs) n ⟨.arr m e, a, c⟩ = (E.tab e).bind (ixArr vs m n) := rfl
def ixVia (E : Env) (T : Nat) (x : AV) (n : Int) : Option AV := index E T x n
theorem ixVia_eq (T : Nat) (x : AV) (n : Int) : ixVia E T x n = index E T x n := rfl
theorem ex_ix (d : Option Nat) (T : Nat) (x i : Operand) : exOp E ⟨d, .index T x i, 0, "", #[], none⟩ ⟨s, h⟩ = ((intOf (eval ⟨s, h⟩ i)).bind (ixVia E T (eval ⟨s, h⟩ x))).map (St.put ⟨s, h⟩ d) := ex_index T x i
def iaV (E : Env) (h : Heap) (T : Nat) (x : AV) (n : Int) : Option AV := indexAddr E h T x n
theorem iaV_eq (T : Nat) (x : AV) (n : Int) : iaV E h T x n = indexAddr E h T x n := rfl
theorem ex_ia2 (d : Option Nat) (T : Nat) (x i : Operand) : exOp E ⟨d, .indexAddr T x i, 0, "", #[], none⟩ ⟨s, h⟩ = ((intOf (eval ⟨s, h⟩ i)).bind (iaV E h T (eval ⟨s, h⟩ x))).map (St.put ⟨s, h⟩ d) := ex_ia T x i
def putI (s : Slots) (h : Heap) (d : Option Nat) (n : Int) : St := St.put ⟨s, h⟩ d (.d (.int .i64) n)
theorem putI_eq (d : Option Nat) (n : Int) : putI s h d n = St.put ⟨s, h⟩ d (.d (.int .i64) n) := rfl
theorem ex_len2 (d : Option Nat) (x : Operand) (T : Nat) : exOp E ⟨d, .call ⟨.builtin .len, #[x], #[T]⟩, 0, "", #[], none⟩ ⟨s, h⟩ = (lenT E T h (eval ⟨s, h⟩ x)).map (putI s h d) := ex_len x T
def msV (E : Env) (s : Slots) (h : Heap) (id T : Nat) (a b : Int) : Option (AV × St) := makeSlice E ⟨s, h⟩ id T a b
theorem msV_eq (id T : Nat) (a b : Int) : msV E s h id T a b = makeSlice E ⟨s, h⟩ id T a b := rfl
def msV1 (E : Env) (s : Slots) (h : Heap) (id T : Nat) (c : Operand) (a : Int) : Option (AV × St) := (intOf (eval ⟨s, h⟩ c)).bind (msV E s h id T a)
theorem msV1_eq (id T : Nat) (c : Operand) (a : Int) : msV1 E s h id T c a = (intOf (eval ⟨s, h⟩ c)).bind (msV E s h id T a) := rfl
theorem ex_ms2 (d : Option Nat) (T : Nat) (n c : Operand) : exOp E ⟨d, .makeSlice T n c, 0, "", #[], none⟩ ⟨s, h⟩ = ((intOf (eval ⟨s, h⟩ n)).bind (msV1 E s h (newId d) T c)).map (put2 d) := ex_ms T n c
def putU (d : Option Nat) (st : St) : St := st.put d .undef
theorem putU_eq (d : Option Nat) : putU d ⟨s, h⟩ = St.put ⟨s, h⟩ d .undef := rfl
theorem ex_st (d : Option Nat) (T : Nat) (p x : Operand) : exOp E ⟨d, .store T p x, 0, "", #[], none⟩ ⟨s, h⟩ = (storeAt E ⟨s, h⟩ T (eval ⟨s, h⟩ p) (eval ⟨s, h⟩ x)).map (putU d) := ex_store T p x
def evalOf (s : Slots) (h : Heap) (x : Operand) : AV := eval ⟨s, h⟩ x
theorem evalOf_eq (x : Operand) : evalOf s h x = eval ⟨s, h⟩ x := rfl
def evl (s : Slots) (h : Heap) : List Operand → List AV
  | [] => []
  | x :: xs => eval ⟨s, h⟩ x :: evl s h xs
theorem evl_nil : evl s h [] = [] := rfl
theorem evl_cons (x : Operand) (xs : List Operand) : evl s h (x :: xs) = eval ⟨s, h⟩ x :: evl s h xs := rfl
theorem evl_eq : ∀ xs : List Operand, xs.map (eval ⟨s, h⟩) = evl s h xs
  | [] => rfl
  | x :: xs => by rw [List.map_cons, evl_cons, evl_eq xs]
def evalp (s : Slots) (h : Heap) : List (Nat × Operand) → List (Nat × AV)
  | [] => []
  | (j, x) :: xs => (j, eval ⟨s, h⟩ x) :: evalp s h xs
theorem evalp_nil : evalp s h [] = [] := rfl
theorem evalp_cons (j : Nat) (x : Operand) (xs : List (Nat × Operand)) : evalp s h ((j, x) :: xs) = (j, eval ⟨s, h⟩ x) :: evalp s h xs := rfl
theorem evalp_eq : ∀ xs : List (Nat × Operand), xs.map (fun p => (p.1, eval ⟨s, h⟩ p.2)) = evalp s h xs
  | [] => rfl
  | (j, x) :: xs => by rw [List.map_cons, evalp_cons, evalp_eq xs]
theorem ex_call2 (d : Option Nat) (f : Operand) (xs : Array Operand) (ts : Array Nat) : exOp E ⟨d, .call ⟨.value f, xs, ts⟩, 0, "", #[], none⟩ ⟨s, h⟩ = (callVia E ⟨s, h⟩ (newId d) (evl s h xs.toList) (eval ⟨s, h⟩ f)).map (put2 d) := by rw [ex_call, evl_eq]
theorem ex_fn2 (d : Option Nat) (f : Nat) (caps : Array Operand) : exOp E ⟨d, .makeFunc (.func f) #[] caps, 0, "", #[], none⟩ ⟨s, h⟩ = some (St.put ⟨s, h⟩ d (.fn f (evl s h caps.toList))) := by rw [ex_fn, evl_eq]
theorem ex_build2 (d : Option Nat) (T : Nat) (ps : Array (Nat × Operand)) : exOp E ⟨d, .build T ps, 0, "", #[], none⟩ ⟨s, h⟩ = (build E T (evalp s h ps.toList)).map (St.put ⟨s, h⟩ d) := by rw [ex_build, evalp_eq]
theorem ex_bs2 (d : Option Nat) (T len : Nat) (ps : Array (Nat × Operand)) : exOp E ⟨d, .buildSlice T len ps, 0, "", #[], none⟩ ⟨s, h⟩ = (buildSlice E ⟨s, h⟩ (newId d) T len (evalp s h ps.toList)).map (put2 d) := by rw [ex_bs, evalp_eq]
/-! conversions -/
def toStr (xs : List Int) : AV := .d .str (bytesS xs)
theorem toStr_eq (xs : List Int) : toStr xs = .d .str (bytesS xs) := rfl
def cvEl (h : Heap) (x : AV) (te : TI) : Option AV := match te.desc with
  | .int .u8 => (listOf h (.int .u8) x).map toStr
  | _ => none
theorem cvEl_u8 (x : AV) (n m : Nat) : cvEl h x ⟨.int .u8, n, m⟩ = (listOf h (.int .u8) x).map toStr := rfl
def cvStr (E : Env) (h : Heap) (x : AV) (ts : TI) : Option AV := match x with
  | .d .str b => some (.d .str b)
  | x => match ts.desc with
    | .slice e => (E.tab e).bind (cvEl h x)
    | _ => none
theorem cvStr_str (b : ByteArray) (ts : TI) : cvStr E h (.d .str b) ts = some (.d .str b) := rfl
theorem cvStr_os (p : Pl) (e n m : Nat) : cvStr E h (.os p) ⟨.slice e, n, m⟩ = (E.tab e).bind (cvEl h (.os p)) := rfl
theorem cvStr_sub (p : Pl) (a b : Nat) (e n m : Nat) : cvStr E h (.sub p a b) ⟨.slice e, n, m⟩ = (E.tab e).bind (cvEl h (.sub p a b)) := rfl
theorem cvStr_sl (t : Ty) (x : List t.Den) (e n m : Nat) : cvStr E h (.d (.slice t) x) ⟨.slice e, n, m⟩ = (E.tab e).bind (cvEl h (.d (.slice t) x)) := rfl
theorem cvStr_nil (e n m : Nat) : cvStr E h .nilS ⟨.slice e, n, m⟩ = (E.tab e).bind (cvEl h .nilS) := rfl
theorem cvStr_emp (e n m : Nat) : cvStr E h .empS ⟨.slice e, n, m⟩ = (E.tab e).bind (cvEl h .empS) := rfl
def cvInt (k : IntKind) : AV → Option AV
  | .d (.int _) n => some (.d (.int k) (k.wrap n))
  | _ => none
theorem cvInt_int (k k' : IntKind) (n : Int) : cvInt k (.d (.int k') n) = some (.d (.int k) (k.wrap n)) := rfl
def cv2 (E : Env) (h : Heap) (x : AV) (ts td : TI) : Option AV := match td.desc with
  | .int k => cvInt k x
  | .str => cvStr E h x ts
  | _ => none
theorem cv2_int (x : AV) (ts : TI) (k : IntKind) (n m : Nat) : cv2 E h x ts ⟨.int k, n, m⟩ = cvInt k x := rfl
theorem cv2_str (x : AV) (ts : TI) (n m : Nat) : cv2 E h x ts ⟨.str, n, m⟩ = cvStr E h x ts := rfl
def cv1 (E : Env) (h : Heap) (dst : Nat) (x : AV) (ts : TI) : Option AV := (E.tab dst).bind (cv2 E h x ts)
theorem cv1_eq (dst : Nat) (x : AV) (ts : TI) : cv1 E h dst x ts = (E.tab dst).bind (cv2 E h x ts) := rfl
theorem convertT_eq (src dst : Nat) (x : AV) : convertT E h src dst x = (E.tab src).bind (cv1 E h dst x) := by
  unfold convertT cv1 cv2
  congr 1; funext ts
  congr 1; funext td
  cases td.desc with
  | int k =>
    cases x with
    | d t x => cases t <;> rfl
    | _ => rfl
  | str =>
    simp only [cvStr]
    cases x with
    | d t x =>
      cases t with
      | str => rfl
      | _ =>
        simp only
        cases ts.desc <;> first | rfl | (simp only; congr 1)
    | _ =>
      simp only
      cases ts.desc <;> first | rfl | (simp only; congr 1)
  | _ => rfl
theorem room_eq (n b : Nat) : roomFor n b = decide (n * b ≤ 140737488355328 ∧ n ≤ 9223372036854775807) := rfl
theorem setL_nil (n : Nat) (v : AV) : setL n v [] = [] := by cases n <;> rfl
theorem setL_zero (v u : AV) (vs : List AV) : setL 0 v (u :: vs) = v :: vs := rfl
theorem setL_succ (n : Nat) (v u : AV) (vs : List AV) : setL (n + 1) v (u :: vs) = u :: setL n v vs := rfl
end
end Go.Q
