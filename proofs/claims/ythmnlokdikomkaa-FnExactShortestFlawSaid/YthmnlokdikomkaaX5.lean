/- The program's search: one op. -/
import Derived.Test.YthmnlokdikomkaaX2
namespace Go.Proofs.Ythmnlokdikomkaa.PI
open Go Go.Q
set_option maxRecDepth 100000
set_option maxHeartbeats 8000000
set_option linter.unusedSimpArgs false
set_option linter.unusedVariables false
set_option linter.unusedSectionVars false
abbrev tS : Ty := .agg (.cons (.slice (.int .i64)) (.cons (.slice .bool) (.cons .bool .nil)))
abbrev tR : Ty := .agg (.cons tS (.cons (.slice tyO) .nil))
abbrev tN : Ty := .agg (.cons tS (.cons (.int .i64) (.cons tyO .nil)))
abbrev LO (xs : List Od) : AV := .d (.slice tyO) xs
def flV : Option (List Od) → AV
  | none => .nilS
  | some _ => .os (.t 640)
def flH : Option (List Od) → Heap
  | none => []
  | some fp => [(640, .arr true false tyO fp)]
abbrev HE (pa pb pv pd pe : List Ru) (xs : List Rd) (kv : List (ByteArray × Bool)) (ss : List Sd) (fo : Option (List Od)) : Heap :=
  (128, .box [LR pa, LR pb, LR pv, LR pd, LR pe]) :: (1536, .arr true false tR xs) :: (1600, .mp .str .bool kv) :: (1856, .arr true false tS ss) :: flH fo
abbrev now (cs : List Int) (fs : List Bool) (m : Bool) (ops : List Od) : AV := .rp [cI cs, LB fs, B m, LO ops]
abbrev S2 (n k c : Int) (q1 q2 : Nat) (fo : Option (List Od)) (w : AV) : Slots :=
  [(1, I n), (2, .op 128 0), (7, .sub (.t 1536) q1 q2), (8, .mp 1600), (9, .os (.t 1856)), (10, flV fo), (11, w), (12, I k), (43, I k), (46, I n), (47, I c)]
theorem it_flaw (pa pb pv pd pe : List Ru) (n k : Int) (c : Nat) (hc : (c : Int) < n) (hn : n ≤ 3) (cs : List Int) (fs : List Bool) (m : Bool) (ops : List Od) (ho : ops.length < 5000) (xs : List Rd) (hxs : xs.length < 5000) (kv : List (ByteArray × Bool)) (ss : List Sd) (q1 q2 : Nat) (hq : q1 + q2 = xs.length) (cs' : List Int) (fs' : List Bool) (m' se : Bool) (bk : Int) (fo : Option (List Od)) (hfo : ∀ fp, fo = some fp → fp.length ≠ 0) (hcl : callOf pr 66 [.agg [cI cs, LB fs, B m]] [] = some (.agg [.os (.t 320), .os (.t 512), B m], [(320, .arr true false (.int .i64) cs), (512, .arr true false .bool fs)]))
    (hst : callOf pr 52 [.op 1000000 0, pA pa pb pv pd pe, .agg [I k, I c]] (HX cs fs m) = some (AV.tuple [B true, B se, I bk], HX cs' fs' m')) :
    loopOf pr 46 2 ⟨S2 n k c q1 q2 fo (now cs fs m ops), HE pa pb pv pd pe xs kv ss fo⟩ = loopOf pr 46 2 ⟨S2 n k ((c + 1 : Nat) : Int) q1 q2 (some (fo.getD (ops ++ [(k, (c : Int), ())]))) (now cs fs m ops), HE pa pb pv pd pe xs kv ss (some (fo.getD (ops ++ [(k, (c : Int), ())])))⟩ := by
  have hco := call_clo ops (by omega)
  have hr1 : ((ops.length + 1) * 16 ≤ 140737488355328 ∧ ops.length ≤ 9223372036854775806) = True := tr ⟨by omega, by omega⟩
  have hw : IntKind.i64.wrap ((c : Int) + 1) = ((c + 1 : Nat) : Int) := by rw [wrap_i] <;> omega
  rw [loop_eq pr 46 2 _ Try.f46 fn_46 _ rfl _ ann_46 _ rfl]
  by_cases h0 : ops.length = 0
  · have : ops = [] := List.eq_nil_of_length_eq_zero h0
    subst this
    rw [cloneV, if_pos h0] at hco
    cases fo with
    | none => simp -implicitDefEqProofs only [flV, flH, Option.getD_none, Option.getD_some, tr hc, hcl, hst, hco, hr1, hw, List.nil_append, go_sem, Nat.reduceAdd, Nat.reduceSub, Nat.reduceMul, Nat.reduceMod, Nat.reduceLT, Nat.reduceLeDiff, Nat.reduceEqDiff, Nat.reduceBEq, Nat.reduceDiv, Int.reduceLT, Int.reduceLE, Int.reduceToNat, Int.reduceNeg, Int.reduceEq, ↓reduceIte, reduceCtorEq, ↓reduceDIte] <;> rfl
    | some fp =>
      have hf := hfo fp rfl
      simp -implicitDefEqProofs only [flV, flH, Option.getD_none, Option.getD_some, tr hc, hcl, hst, hco, hr1, hw, List.nil_append, fa hf, go_sem, Nat.reduceAdd, Nat.reduceSub, Nat.reduceMul, Nat.reduceMod, Nat.reduceLT, Nat.reduceLeDiff, Nat.reduceEqDiff, Nat.reduceBEq, Nat.reduceDiv, Int.reduceLT, Int.reduceLE, Int.reduceToNat, Int.reduceNeg, Int.reduceEq, ↓reduceIte, reduceCtorEq, ↓reduceDIte] <;> rfl
  · rw [cloneV, if_neg h0] at hco
    cases fo with
    | none => simp -implicitDefEqProofs only [flV, flH, Option.getD_none, Option.getD_some, tr hc, hcl, hst, hco, hr1, hw, go_sem, Nat.reduceAdd, Nat.reduceSub, Nat.reduceMul, Nat.reduceMod, Nat.reduceLT, Nat.reduceLeDiff, Nat.reduceEqDiff, Nat.reduceBEq, Nat.reduceDiv, Int.reduceLT, Int.reduceLE, Int.reduceToNat, Int.reduceNeg, Int.reduceEq, ↓reduceIte, reduceCtorEq, ↓reduceDIte] <;> rfl
    | some fp =>
      have hf := hfo fp rfl
      simp -implicitDefEqProofs only [flV, flH, Option.getD_none, Option.getD_some, tr hc, hcl, hst, hco, hr1, hw, fa hf, go_sem, Nat.reduceAdd, Nat.reduceSub, Nat.reduceMul, Nat.reduceMod, Nat.reduceLT, Nat.reduceLeDiff, Nat.reduceEqDiff, Nat.reduceBEq, Nat.reduceDiv, Int.reduceLT, Int.reduceLE, Int.reduceToNat, Int.reduceNeg, Int.reduceEq, ↓reduceIte, reduceCtorEq, ↓reduceDIte] <;> rfl
theorem it_seen (pa pb pv pd pe : List Ru) (n k : Int) (c : Nat) (hc : (c : Int) < n) (hn : n ≤ 3) (cs : List Int) (fs : List Bool) (m : Bool) (ops : List Od) (ho : ops.length < 5000) (xs : List Rd) (hxs : xs.length < 5000) (kv : List (ByteArray × Bool)) (ss : List Sd) (q1 q2 : Nat) (hq : q1 + q2 = xs.length) (cs' : List Int) (fs' : List Bool) (m' se : Bool) (bk : Int) (fo : Option (List Od)) (hfo : ∀ fp, fo = some fp → fp.length ≠ 0) (hcl : callOf pr 66 [.agg [cI cs, LB fs, B m]] [] = some (.agg [.os (.t 320), .os (.t 512), B m], [(320, .arr true false (.int .i64) cs), (512, .arr true false .bool fs)]))
    (hst : callOf pr 52 [.op 1000000 0, pA pa pb pv pd pe, .agg [I k, I c]] (HX cs fs m) = some (AV.tuple [B false, B se, I bk], HX cs' fs' m'))
    (kb : ByteArray) (hk : callOf pr 91 [.agg [cI cs', LB fs', B m']] [] = some (S kb, [])) (hfi : findL (tk := .str) (tv := .bool) kb kv = some true) :
    loopOf pr 46 2 ⟨S2 n k c q1 q2 fo (now cs fs m ops), HE pa pb pv pd pe xs kv ss fo⟩ = loopOf pr 46 2 ⟨S2 n k ((c + 1 : Nat) : Int) q1 q2 fo (now cs fs m ops), HE pa pb pv pd pe xs kv ss fo⟩ := by
  have hco := call_clo ops (by omega)
  have hr1 : ((ops.length + 1) * 16 ≤ 140737488355328 ∧ ops.length ≤ 9223372036854775806) = True := tr ⟨by omega, by omega⟩
  have hw : IntKind.i64.wrap ((c : Int) + 1) = ((c + 1 : Nat) : Int) := by rw [wrap_i] <;> omega
  rw [loop_eq pr 46 2 _ Try.f46 fn_46 _ rfl _ ann_46 _ rfl]
  by_cases h0 : ops.length = 0
  · have : ops = [] := List.eq_nil_of_length_eq_zero h0
    subst this
    rw [cloneV, if_pos h0] at hco
    cases fo with
    | none => simp -implicitDefEqProofs only [flV, flH, tr hc, hcl, hst, hco, hr1, hw, hk, hfi, List.nil_append, go_sem, Nat.reduceAdd, Nat.reduceSub, Nat.reduceMul, Nat.reduceMod, Nat.reduceLT, Nat.reduceLeDiff, Nat.reduceEqDiff, Nat.reduceBEq, Nat.reduceDiv, Int.reduceLT, Int.reduceLE, Int.reduceToNat, Int.reduceNeg, Int.reduceEq, ↓reduceIte, reduceCtorEq, ↓reduceDIte] <;> rfl
    | some fp =>
      have hf := hfo fp rfl
      simp -implicitDefEqProofs only [flV, flH, tr hc, hcl, hst, hco, hr1, hw, hk, hfi, List.nil_append, fa hf, go_sem, Nat.reduceAdd, Nat.reduceSub, Nat.reduceMul, Nat.reduceMod, Nat.reduceLT, Nat.reduceLeDiff, Nat.reduceEqDiff, Nat.reduceBEq, Nat.reduceDiv, Int.reduceLT, Int.reduceLE, Int.reduceToNat, Int.reduceNeg, Int.reduceEq, ↓reduceIte, reduceCtorEq, ↓reduceDIte] <;> rfl
  · rw [cloneV, if_neg h0] at hco
    cases fo with
    | none => simp -implicitDefEqProofs only [flV, flH, tr hc, hcl, hst, hco, hr1, hw, hk, hfi, go_sem, Nat.reduceAdd, Nat.reduceSub, Nat.reduceMul, Nat.reduceMod, Nat.reduceLT, Nat.reduceLeDiff, Nat.reduceEqDiff, Nat.reduceBEq, Nat.reduceDiv, Int.reduceLT, Int.reduceLE, Int.reduceToNat, Int.reduceNeg, Int.reduceEq, ↓reduceIte, reduceCtorEq, ↓reduceDIte] <;> rfl
    | some fp =>
      have hf := hfo fp rfl
      simp -implicitDefEqProofs only [flV, flH, tr hc, hcl, hst, hco, hr1, hw, hk, hfi, fa hf, go_sem, Nat.reduceAdd, Nat.reduceSub, Nat.reduceMul, Nat.reduceMod, Nat.reduceLT, Nat.reduceLeDiff, Nat.reduceEqDiff, Nat.reduceBEq, Nat.reduceDiv, Int.reduceLT, Int.reduceLE, Int.reduceToNat, Int.reduceNeg, Int.reduceEq, ↓reduceIte, reduceCtorEq, ↓reduceDIte] <;> rfl
theorem it_new (pa pb pv pd pe : List Ru) (n k : Int) (c : Nat) (hc : (c : Int) < n) (hn : n ≤ 3) (cs : List Int) (fs : List Bool) (m : Bool) (ops : List Od) (ho : ops.length < 5000) (xs : List Rd) (hxs : xs.length < 5000) (kv : List (ByteArray × Bool)) (ss : List Sd) (q1 q2 : Nat) (hq : q1 + q2 = xs.length) (cs' : List Int) (fs' : List Bool) (m' se : Bool) (bk : Int) (fo : Option (List Od)) (hfo : ∀ fp, fo = some fp → fp.length ≠ 0) (hcl : callOf pr 66 [.agg [cI cs, LB fs, B m]] [] = some (.agg [.os (.t 320), .os (.t 512), B m], [(320, .arr true false (.int .i64) cs), (512, .arr true false .bool fs)]))
    (hst : callOf pr 52 [.op 1000000 0, pA pa pb pv pd pe, .agg [I k, I c]] (HX cs fs m) = some (AV.tuple [B false, B se, I bk], HX cs' fs' m'))
    (kb : ByteArray) (hk : callOf pr 91 [.agg [cI cs', LB fs', B m']] [] = some (S kb, [])) (hfi : findL (tk := .str) (tv := .bool) kb kv = none) :
    loopOf pr 46 2 ⟨S2 n k c q1 q2 fo (now cs fs m ops), HE pa pb pv pd pe xs kv ss fo⟩ = loopOf pr 46 2 ⟨S2 n k ((c + 1 : Nat) : Int) 0 ((xs.drop q1).take q2 ++ [((cs', fs', m', ()), ops ++ [(k, (c : Int), ())], ())]).length fo (now cs fs m ops), HE pa pb pv pd pe ((xs.drop q1).take q2 ++ [((cs', fs', m', ()), ops ++ [(k, (c : Int), ())], ())]) (updL (tk := .str) (tv := .bool) kb true kv) ss fo⟩ := by
  have hco := call_clo ops (by omega)
  have hr1 : ((ops.length + 1) * 16 ≤ 140737488355328 ∧ ops.length ≤ 9223372036854775806) = True := tr ⟨by omega, by omega⟩
  have hw : IntKind.i64.wrap ((c : Int) + 1) = ((c + 1 : Nat) : Int) := by rw [wrap_i] <;> omega
  have hr2 : ¬ q1 + q2 + 1 ≤ xs.length := by omega
  have hr3 : ((q2 + 1) * 80 ≤ 140737488355328 ∧ q2 ≤ 9223372036854775806) = True := tr ⟨by omega, by omega⟩
  rw [loop_eq pr 46 2 _ Try.f46 fn_46 _ rfl _ ann_46 _ rfl]
  by_cases h0 : ops.length = 0
  · have : ops = [] := List.eq_nil_of_length_eq_zero h0
    subst this
    rw [cloneV, if_pos h0] at hco
    cases fo with
    | none => simp -implicitDefEqProofs only [flV, flH, tr hc, hcl, hst, hco, hr1, hw, hk, hfi, fa hr2, hr3, List.nil_append, go_sem, Nat.reduceAdd, Nat.reduceSub, Nat.reduceMul, Nat.reduceMod, Nat.reduceLT, Nat.reduceLeDiff, Nat.reduceEqDiff, Nat.reduceBEq, Nat.reduceDiv, Int.reduceLT, Int.reduceLE, Int.reduceToNat, Int.reduceNeg, Int.reduceEq, ↓reduceIte, reduceCtorEq, ↓reduceDIte] <;> rfl
    | some fp =>
      have hf := hfo fp rfl
      simp -implicitDefEqProofs only [flV, flH, tr hc, hcl, hst, hco, hr1, hw, hk, hfi, fa hr2, hr3, List.nil_append, fa hf, go_sem, Nat.reduceAdd, Nat.reduceSub, Nat.reduceMul, Nat.reduceMod, Nat.reduceLT, Nat.reduceLeDiff, Nat.reduceEqDiff, Nat.reduceBEq, Nat.reduceDiv, Int.reduceLT, Int.reduceLE, Int.reduceToNat, Int.reduceNeg, Int.reduceEq, ↓reduceIte, reduceCtorEq, ↓reduceDIte] <;> rfl
  · rw [cloneV, if_neg h0] at hco
    cases fo with
    | none => simp -implicitDefEqProofs only [flV, flH, tr hc, hcl, hst, hco, hr1, hw, hk, hfi, fa hr2, hr3, go_sem, Nat.reduceAdd, Nat.reduceSub, Nat.reduceMul, Nat.reduceMod, Nat.reduceLT, Nat.reduceLeDiff, Nat.reduceEqDiff, Nat.reduceBEq, Nat.reduceDiv, Int.reduceLT, Int.reduceLE, Int.reduceToNat, Int.reduceNeg, Int.reduceEq, ↓reduceIte, reduceCtorEq, ↓reduceDIte] <;> rfl
    | some fp =>
      have hf := hfo fp rfl
      simp -implicitDefEqProofs only [flV, flH, tr hc, hcl, hst, hco, hr1, hw, hk, hfi, fa hr2, hr3, fa hf, go_sem, Nat.reduceAdd, Nat.reduceSub, Nat.reduceMul, Nat.reduceMod, Nat.reduceLT, Nat.reduceLeDiff, Nat.reduceEqDiff, Nat.reduceBEq, Nat.reduceDiv, Int.reduceLT, Int.reduceLE, Int.reduceToNat, Int.reduceNeg, Int.reduceEq, ↓reduceIte, reduceCtorEq, ↓reduceDIte] <;> rfl
theorem ex_c_end (pa pb pv pd pe : List Ru) (n k : Int) (q1 q2 : Nat) (fo : Option (List Od)) (cs : List Int) (fs : List Bool) (m : Bool) (ops : List Od) (xs : List Rd) (kv : List (ByteArray × Bool)) (ss : List Sd) : loopOf pr 46 2 ⟨S2 n k n q1 q2 fo (now cs fs m ops), HE pa pb pv pd pe xs kv ss fo⟩ = some (.exit 4, ⟨S2 n k n q1 q2 fo (now cs fs m ops), HE pa pb pv pd pe xs kv ss fo⟩) := by
  rw [loop_eq pr 46 2 _ Try.f46 fn_46 _ rfl _ ann_46 _ rfl]
  cases fo with
  | none => simp -implicitDefEqProofs only [flV, flH, Int.lt_irrefl, go_sem, Nat.reduceAdd, Nat.reduceSub, Nat.reduceMul, Nat.reduceMod, Nat.reduceLT, Nat.reduceLeDiff, Nat.reduceEqDiff, Nat.reduceBEq, Nat.reduceDiv, Int.reduceLT, Int.reduceLE, Int.reduceToNat, Int.reduceNeg, Int.reduceEq, ↓reduceIte, reduceCtorEq, ↓reduceDIte] <;> rfl
  | some fp => simp -implicitDefEqProofs only [flV, flH, Int.lt_irrefl, go_sem, Nat.reduceAdd, Nat.reduceSub, Nat.reduceMul, Nat.reduceMod, Nat.reduceLT, Nat.reduceLeDiff, Nat.reduceEqDiff, Nat.reduceBEq, Nat.reduceDiv, Int.reduceLT, Int.reduceLE, Int.reduceToNat, Int.reduceNeg, Int.reduceEq, ↓reduceIte, reduceCtorEq, ↓reduceDIte] <;> rfl
abbrev S1 (n k : Int) (q1 q2 : Nat) (fo : Option (List Od)) (w : AV) : Slots :=
  [(1, I n), (2, .op 128 0), (7, .sub (.t 1536) q1 q2), (8, .mp 1600), (9, .os (.t 1856)), (10, flV fo), (11, w), (43, I k)]
theorem ex_k_end (pa pb pv pd pe : List Ru) (n : Int) (q1 q2 : Nat) (fo : Option (List Od)) (cs : List Int) (fs : List Bool) (m : Bool) (ops : List Od) (xs : List Rd) (kv : List (ByteArray × Bool)) (ss : List Sd) : loopOf pr 46 1 ⟨S1 n 3 q1 q2 fo (now cs fs m ops), HE pa pb pv pd pe xs kv ss fo⟩ = some (.exit 2, ⟨S1 n 3 q1 q2 fo (now cs fs m ops), HE pa pb pv pd pe xs kv ss fo⟩) := by
  rw [loop_eq pr 46 1 _ Try.f46 fn_46 _ rfl _ ann_46 _ rfl]
  cases fo with
  | none => simp -implicitDefEqProofs only [flV, flH, Int.lt_irrefl, go_sem, Nat.reduceAdd, Nat.reduceSub, Nat.reduceMul, Nat.reduceMod, Nat.reduceLT, Nat.reduceLeDiff, Nat.reduceEqDiff, Nat.reduceBEq, Nat.reduceDiv, Int.reduceLT, Int.reduceLE, Int.reduceToNat, Int.reduceNeg, Int.reduceEq, ↓reduceIte, reduceCtorEq, ↓reduceDIte] <;> rfl
  | some fp => simp -implicitDefEqProofs only [flV, flH, Int.lt_irrefl, go_sem, Nat.reduceAdd, Nat.reduceSub, Nat.reduceMul, Nat.reduceMod, Nat.reduceLT, Nat.reduceLeDiff, Nat.reduceEqDiff, Nat.reduceBEq, Nat.reduceDiv, Int.reduceLT, Int.reduceLE, Int.reduceToNat, Int.reduceNeg, Int.reduceEq, ↓reduceIte, reduceCtorEq, ↓reduceDIte] <;> rfl
theorem ex_k (pa pb pv pd pe : List Ru) (n : Int) (k : Nat) (hk : (k : Int) < 3) (q1 q2 : Nat) (fo : Option (List Od)) (cs : List Int) (fs : List Bool) (m : Bool) (ops : List Od) (xs : List Rd) (kv : List (ByteArray × Bool)) (ss : List Sd) (q1' q2' : Nat) (fo' : Option (List Od)) (cs' : List Int) (fs' : List Bool) (m' : Bool) (ops' : List Od) (xs' : List Rd) (kv' : List (ByteArray × Bool))
    (h : loopOf pr 46 2 ⟨S2 n k 0 q1 q2 fo (now cs fs m ops), HE pa pb pv pd pe xs kv ss fo⟩ = some (.exit 4, ⟨S2 n k n q1' q2' fo' (now cs' fs' m' ops'), HE pa pb pv pd pe xs' kv' ss fo'⟩)) :
    loopOf pr 46 1 ⟨S1 n k q1 q2 fo (now cs fs m ops), HE pa pb pv pd pe xs kv ss fo⟩ = loopOf pr 46 1 ⟨S1 n ((k + 1 : Nat) : Int) q1' q2' fo' (now cs' fs' m' ops'), HE pa pb pv pd pe xs' kv' ss fo'⟩ := by
  have hw : IntKind.i64.wrap ((k : Int) + 1) = ((k + 1 : Nat) : Int) := by rw [wrap_i] <;> omega
  rw [loop_eq pr 46 1 _ Try.f46 fn_46 _ rfl _ ann_46 _ rfl]
  cases fo with
  | none =>
    cases fo' with
    | none =>
      simp only [S2, HE, flV, flH] at h
      simp -implicitDefEqProofs only [flV, flH, tr hk, h, hw, go_sem, Nat.reduceAdd, Nat.reduceSub, Nat.reduceMul, Nat.reduceMod, Nat.reduceLT, Nat.reduceLeDiff, Nat.reduceEqDiff, Nat.reduceBEq, Nat.reduceDiv, Int.reduceLT, Int.reduceLE, Int.reduceToNat, Int.reduceNeg, Int.reduceEq, ↓reduceIte, reduceCtorEq, ↓reduceDIte] <;> rfl
    | some fp' =>
      simp only [S2, HE, flV, flH] at h
      simp -implicitDefEqProofs only [flV, flH, tr hk, h, hw, go_sem, Nat.reduceAdd, Nat.reduceSub, Nat.reduceMul, Nat.reduceMod, Nat.reduceLT, Nat.reduceLeDiff, Nat.reduceEqDiff, Nat.reduceBEq, Nat.reduceDiv, Int.reduceLT, Int.reduceLE, Int.reduceToNat, Int.reduceNeg, Int.reduceEq, ↓reduceIte, reduceCtorEq, ↓reduceDIte] <;> rfl
  | some fp =>
    cases fo' with
    | none =>
      simp only [S2, HE, flV, flH] at h
      simp -implicitDefEqProofs only [flV, flH, tr hk, h, hw, go_sem, Nat.reduceAdd, Nat.reduceSub, Nat.reduceMul, Nat.reduceMod, Nat.reduceLT, Nat.reduceLeDiff, Nat.reduceEqDiff, Nat.reduceBEq, Nat.reduceDiv, Int.reduceLT, Int.reduceLE, Int.reduceToNat, Int.reduceNeg, Int.reduceEq, ↓reduceIte, reduceCtorEq, ↓reduceDIte] <;> rfl
    | some fp' =>
      simp only [S2, HE, flV, flH] at h
      simp -implicitDefEqProofs only [flV, flH, tr hk, h, hw, go_sem, Nat.reduceAdd, Nat.reduceSub, Nat.reduceMul, Nat.reduceMod, Nat.reduceLT, Nat.reduceLeDiff, Nat.reduceEqDiff, Nat.reduceBEq, Nat.reduceDiv, Int.reduceLT, Int.reduceLE, Int.reduceToNat, Int.reduceNeg, Int.reduceEq, ↓reduceIte, reduceCtorEq, ↓reduceDIte] <;> rfl
abbrev S0 (n : Int) (q1 q2 : Nat) (fo : Option (List Od)) : Slots :=
  [(1, I n), (2, .op 128 0), (7, .sub (.t 1536) q1 q2), (8, .mp 1600), (9, .os (.t 1856)), (10, flV fo)]
abbrev HEd (d : Bool) (pa pb pv pd pe : List Ru) (xs : List Rd) (kv : List (ByteArray × Bool)) (ss : List Sd) (fo : Option (List Od)) : Heap :=
  (128, .box [LR pa, LR pb, LR pv, LR pd, LR pe]) :: (1536, .arr true false tR xs) :: (1600, .mp .str .bool kv) :: (1856, .arr true d tS ss) :: flH fo
abbrev S0t (n : Int) (q1 q2 : Nat) (fo : Option (List Od)) (w : AV) : Slots :=
  [(1, I n), (2, .op 128 0), (7, .sub (.t 1536) q1 q2), (8, .mp 1600), (9, .os (.t 1856)), (10, flV fo), (11, w), (43, I 3)]
theorem ex_o_end (pa pb pv pd pe : List Ru) (n : Int) (q1 : Nat) (fo : Option (List Od)) (cs : List Int) (fs : List Bool) (m : Bool) (ops : List Od) (xs : List Rd) (kv : List (ByteArray × Bool)) (ss : List Sd) : loopOf pr 46 0 ⟨S0t n q1 0 fo (now cs fs m ops), HE pa pb pv pd pe xs kv ss fo⟩ = some (.exit 0, ⟨S0 n q1 0 fo, HE pa pb pv pd pe xs kv ss fo⟩) := by
  rw [loop_eq pr 46 0 _ Try.f46 fn_46 _ rfl _ ann_46 _ rfl]
  cases fo with
  | none => simp -implicitDefEqProofs only [flV, flH, Int.lt_irrefl, gt_iff_lt, show (((0 : Nat) : Int)) = 0 from rfl, go_sem, Nat.reduceAdd, Nat.reduceSub, Nat.reduceMul, Nat.reduceMod, Nat.reduceLT, Nat.reduceLeDiff, Nat.reduceEqDiff, Nat.reduceBEq, Nat.reduceDiv, Int.reduceLT, Int.reduceLE, Int.reduceToNat, Int.reduceNeg, Int.reduceEq, ↓reduceIte, reduceCtorEq, ↓reduceDIte] <;> rfl
  | some fp => simp -implicitDefEqProofs only [flV, flH, Int.lt_irrefl, gt_iff_lt, show (((0 : Nat) : Int)) = 0 from rfl, go_sem, Nat.reduceAdd, Nat.reduceSub, Nat.reduceMul, Nat.reduceMod, Nat.reduceLT, Nat.reduceLeDiff, Nat.reduceEqDiff, Nat.reduceBEq, Nat.reduceDiv, Int.reduceLT, Int.reduceLE, Int.reduceToNat, Int.reduceNeg, Int.reduceEq, ↓reduceIte, reduceCtorEq, ↓reduceDIte] <;> rfl
theorem ex_o0 (pa pb pv pd pe : List Ru) (n : Int) (q1 q2 : Nat) (cs : List Int) (fs : List Bool) (m : Bool) (ops : List Od) (xs : List Rd) (kv : List (ByteArray × Bool)) (hq : q1 + (q2 + 1) = xs.length) (hx : xs.length < 5000) (hg : ∀ z, xs.getD q1 z = ((cs, fs, m, ()), ops, ())) (q1' q2' : Nat) (fo' : Option (List Od)) (cs' : List Int) (fs' : List Bool) (m' : Bool) (ops' : List Od) (xs' : List Rd) (kv' : List (ByteArray × Bool))
    (h : loopOf pr 46 1 ⟨S1 n 0 (q1 + 1) q2 none (now cs fs m ops), HE pa pb pv pd pe xs kv [(cs, fs, m, ())] none⟩ = some (.exit 2, ⟨S1 n 3 q1' q2' fo' (now cs' fs' m' ops'), HE pa pb pv pd pe xs' kv' [(cs, fs, m, ())] fo'⟩)) :
    loopOf pr 46 0 ⟨S0 n q1 (q2 + 1) none, HEd true pa pb pv pd pe xs kv [] none⟩ = loopOf pr 46 0 ⟨S0t n q1' q2' fo' (now cs' fs' m' ops'), HE pa pb pv pd pe xs' kv' [(cs, fs, m, ())] fo'⟩ := by
  have hr3 : (([] : List Sd).length + 1) * 56 ≤ 140737488355328 := by decide
  have h1 : (0 : Int) < ((q2 + 1 : Nat) : Int) := by omega
  have h2 : (1 : Int) ≤ ((q2 + 1 : Nat) : Int) := by omega
  have h3 : q1 < xs.length := by omega
  have e1 : (((q2 + 1 : Nat) : Int)).toNat - 1 = q2 := by omega
  rw [loop_eq pr 46 0 _ Try.f46 fn_46 _ rfl _ ann_46 _ rfl]
  cases fo' with
  | none =>
    simp only [S1, HE, flV, flH] at h
    simp -implicitDefEqProofs only [flV, flH, tr h1, tr h2, tr h3, Int.lt_irrefl, Int.le_refl, gt_iff_lt, hg, hr3, Nat.add_zero, e1, h, List.nil_append, go_sem, Nat.reduceAdd, Nat.reduceSub, Nat.reduceMul, Nat.reduceMod, Nat.reduceLT, Nat.reduceLeDiff, Nat.reduceEqDiff, Nat.reduceBEq, Nat.reduceDiv, Int.reduceLT, Int.reduceLE, Int.reduceToNat, Int.reduceNeg, Int.reduceEq, ↓reduceIte, reduceCtorEq, ↓reduceDIte] <;> rfl
  | some fp' =>
    simp only [S1, HE, flV, flH] at h
    simp -implicitDefEqProofs only [flV, flH, tr h1, tr h2, tr h3, Int.lt_irrefl, Int.le_refl, gt_iff_lt, hg, hr3, Nat.add_zero, e1, h, List.nil_append, go_sem, Nat.reduceAdd, Nat.reduceSub, Nat.reduceMul, Nat.reduceMod, Nat.reduceLT, Nat.reduceLeDiff, Nat.reduceEqDiff, Nat.reduceBEq, Nat.reduceDiv, Int.reduceLT, Int.reduceLE, Int.reduceToNat, Int.reduceNeg, Int.reduceEq, ↓reduceIte, reduceCtorEq, ↓reduceDIte] <;> rfl
theorem ex_o (pa pb pv pd pe : List Ru) (n : Int) (q1 q2 : Nat) (cs : List Int) (fs : List Bool) (m : Bool) (ops : List Od) (xs : List Rd) (kv : List (ByteArray × Bool)) (hq : q1 + (q2 + 1) = xs.length) (hx : xs.length < 5000) (hg : ∀ z, xs.getD q1 z = ((cs, fs, m, ()), ops, ())) (q1' q2' : Nat) (fo' : Option (List Od)) (cs' : List Int) (fs' : List Bool) (m' : Bool) (ops' : List Od) (xs' : List Rd) (kv' : List (ByteArray × Bool)) (ss : List Sd) (hss : ss.length < 5000) (fo : Option (List Od)) (c0 : List Int) (f0 : List Bool) (m0 : Bool) (o0 : List Od)
    (h : loopOf pr 46 1 ⟨S1 n 0 (q1 + 1) q2 fo (now cs fs m ops), HE pa pb pv pd pe xs kv (ss ++ [(cs, fs, m, ())]) fo⟩ = some (.exit 2, ⟨S1 n 3 q1' q2' fo' (now cs' fs' m' ops'), HE pa pb pv pd pe xs' kv' (ss ++ [(cs, fs, m, ())]) fo'⟩)) :
    loopOf pr 46 0 ⟨S0t n q1 (q2 + 1) fo (now c0 f0 m0 o0), HE pa pb pv pd pe xs kv ss fo⟩ = loopOf pr 46 0 ⟨S0t n q1' q2' fo' (now cs' fs' m' ops'), HE pa pb pv pd pe xs' kv' (ss ++ [(cs, fs, m, ())]) fo'⟩ := by
  have hr3 : ((ss.length + 1) * 56 ≤ 140737488355328 ∧ ss.length ≤ 9223372036854775806) = True := tr ⟨by omega, by omega⟩
  have h1 : (0 : Int) < ((q2 + 1 : Nat) : Int) := by omega
  have h2 : (1 : Int) ≤ ((q2 + 1 : Nat) : Int) := by omega
  have h3 : q1 < xs.length := by omega
  have e1 : (((q2 + 1 : Nat) : Int)).toNat - 1 = q2 := by omega
  rw [loop_eq pr 46 0 _ Try.f46 fn_46 _ rfl _ ann_46 _ rfl]
  cases fo with
  | none =>
    cases fo' with
    | none =>
      simp only [S1, HE, flV, flH] at h
      simp -implicitDefEqProofs only [flV, flH, tr h1, tr h2, tr h3, Int.lt_irrefl, Int.le_refl, gt_iff_lt, hg, hr3, Nat.add_zero, e1, h, go_sem, Nat.reduceAdd, Nat.reduceSub, Nat.reduceMul, Nat.reduceMod, Nat.reduceLT, Nat.reduceLeDiff, Nat.reduceEqDiff, Nat.reduceBEq, Nat.reduceDiv, Int.reduceLT, Int.reduceLE, Int.reduceToNat, Int.reduceNeg, Int.reduceEq, ↓reduceIte, reduceCtorEq, ↓reduceDIte] <;> rfl
    | some fp' =>
      simp only [S1, HE, flV, flH] at h
      simp -implicitDefEqProofs only [flV, flH, tr h1, tr h2, tr h3, Int.lt_irrefl, Int.le_refl, gt_iff_lt, hg, hr3, Nat.add_zero, e1, h, go_sem, Nat.reduceAdd, Nat.reduceSub, Nat.reduceMul, Nat.reduceMod, Nat.reduceLT, Nat.reduceLeDiff, Nat.reduceEqDiff, Nat.reduceBEq, Nat.reduceDiv, Int.reduceLT, Int.reduceLE, Int.reduceToNat, Int.reduceNeg, Int.reduceEq, ↓reduceIte, reduceCtorEq, ↓reduceDIte] <;> rfl
  | some fp =>
    cases fo' with
    | none =>
      simp only [S1, HE, flV, flH] at h
      simp -implicitDefEqProofs only [flV, flH, tr h1, tr h2, tr h3, Int.lt_irrefl, Int.le_refl, gt_iff_lt, hg, hr3, Nat.add_zero, e1, h, go_sem, Nat.reduceAdd, Nat.reduceSub, Nat.reduceMul, Nat.reduceMod, Nat.reduceLT, Nat.reduceLeDiff, Nat.reduceEqDiff, Nat.reduceBEq, Nat.reduceDiv, Int.reduceLT, Int.reduceLE, Int.reduceToNat, Int.reduceNeg, Int.reduceEq, ↓reduceIte, reduceCtorEq, ↓reduceDIte] <;> rfl
    | some fp' =>
      simp only [S1, HE, flV, flH] at h
      simp -implicitDefEqProofs only [flV, flH, tr h1, tr h2, tr h3, Int.lt_irrefl, Int.le_refl, gt_iff_lt, hg, hr3, Nat.add_zero, e1, h, go_sem, Nat.reduceAdd, Nat.reduceSub, Nat.reduceMul, Nat.reduceMod, Nat.reduceLT, Nat.reduceLeDiff, Nat.reduceEqDiff, Nat.reduceBEq, Nat.reduceDiv, Int.reduceLT, Int.reduceLE, Int.reduceToNat, Int.reduceNeg, Int.reduceEq, ↓reduceIte, reduceCtorEq, ↓reduceDIte] <;> rfl
/-- The ops that lead to the first flaw. -/
def flo (st : St2) : Option (List Od) := st.2.map (pth (pathsOf st.1))
def sysAt (ns : List Nd) (i : Nat) : Sd := (ns.getD i dN).1
def pathAt (ns : List Nd) (i : Nat) : List Od := (pathsOf ns).getD i []
abbrev nowAt (ns : List Nd) (i : Nat) : AV := now (sysAt ns i).1 (sysAt ns i).2.1 (sysAt ns i).2.2.1 (pathAt ns i)
structure QR (q1 q2 : Nat) (xs : List Rd) (ns : List Nd) (j : Nat) : Prop where
  sum : q1 + q2 = xs.length
  rest : xs.drop q1 = (qAll ns).drop j
  lt : xs.length < 5000
theorem pth_more {ns : List Nd} {nd : Nd} (h0 : 0 ≤ nd.2.1) (hl : nd.2.1 < ns.length) (more : Nd) : pth (pathsOf (ns ++ [more])) nd = pth (pathsOf ns) nd := by
  unfold pth
  rw [if_neg (by omega), if_neg (by omega), pathsOf_snoc]
  have h1 : nd.2.1.toNat < (pathsOf ns).length := by rw [pathsOf_length]; omega
  rw [getD_of_lt (by simp; omega), getD_of_lt h1, List.getElem_append_left h1]
theorem sysAt_more {ns : List Nd} {i : Nat} (hi : i < ns.length) (nd : Nd) : sysAt (ns ++ [nd]) i = sysAt ns i := by
  unfold sysAt
  rw [getD_of_lt (by simp; omega), getD_of_lt hi, List.getElem_append_left hi]
theorem pathAt_more {ns : List Nd} {i : Nat} (hi : i < ns.length) (nd : Nd) : pathAt (ns ++ [nd]) i = pathAt ns i := by
  unfold pathAt
  have h1 : i < (pathsOf ns).length := by rw [pathsOf_length]; omega
  rw [pathsOf_snoc, getD_of_lt (by simp; omega), getD_of_lt h1, List.getElem_append_left h1]
theorem nowAt_more {ns : List Nd} {i : Nat} (hi : i < ns.length) (nd : Nd) : nowAt (ns ++ [nd]) i = nowAt ns i := by
  unfold nowAt
  rw [sysAt_more hi, pathAt_more hi]
section
variable (pa pb pv pd pe : List Ru) (hP : protB pa pb pv pd pe = true) (n : Nat) (hn : 1 ≤ n ∧ n ≤ 3)
include hP hn
theorem nx_ok : StepOK (nextF pa pb pv pd pe) n := by
  obtain ⟨r1, r2, r3, r4, r5⟩ := prot_okR hP
  exact next_ok r1 r2 r3 r4 r5 n
theorem clone_at {s : Sd} (hs : okS n s) : callOf pr 66 [.agg [cI s.1, LB s.2.1, B s.2.2.1]] [] = some (.agg [.os (.t 320), .os (.t 512), B s.2.2.1], [(320, .arr true false (.int .i64) s.1), (512, .arr true false .bool s.2.1)]) := by
  obtain ⟨cs, fs, m, ⟨⟩⟩ := s
  obtain ⟨h1, h2, h3⟩ := hs
  simp only at h1 h2 h3
  match cs, fs, h1, h2 with
  | x :: xs, f :: fs, h1, h2 => exact call_cln x xs f fs m (by simp only [List.length_cons] at h1; omega) (by simp only [List.length_cons] at h2; omega)
  | [], _, h1, _ => simp at h1; omega
  | _ :: _, [], _, h2 => simp at h2; omega
theorem prot_all : pa.length = 4 ∧ pb.length = 4 ∧ pv.length = 4 ∧ pd.length = 4 ∧ pe.length = 4 ∧ pa.all nzB = true := by
  have h2 := prot_eq pa pb pv pd pe
  rw [hP] at h2
  have hs : tabsL 0 [pa, pb, pv, pd, pe] = (decide (pa.length = 4) && askL 0 0 pa && (decide (pb.length = 4) && askL 1 0 pb && (decide (pv.length = 4) && askL 2 0 pv && (decide (pd.length = 4) && askL 3 0 pd && (decide (pe.length = 4) && askL 4 0 pe && true))))) := rfl
  rw [hs, ask_0] at h2
  simp only [Bool.and_eq_true, decide_eq_true_eq] at h2
  exact ⟨h2.1.1, h2.2.1.1, h2.2.2.1.1, h2.2.2.2.1.1, h2.2.2.2.2.1.1, h2.1.2.2⟩
theorem step_at {s : Sd} (hs : okS n s) {k : Int} (hk : 0 ≤ k ∧ k ≤ 2) {c : Nat} (hc : c < n) : ∃ se bk, callOf pr 52 [.op 1000000 0, pA pa pb pv pd pe, .agg [I k, I c]] (HX s.1 s.2.1 s.2.2.1) =
    some (AV.tuple [B (nextF pa pb pv pd pe s k c).2, B se, I bk], HX (nextF pa pb pv pd pe s k c).1.1 (nextF pa pb pv pd pe s k c).1.2.1 (nextF pa pb pv pd pe s k c).1.2.2.1) := by
  obtain ⟨h1, h2, h3⟩ := hs
  obtain ⟨p1, p2, p3, p4, p5, p6⟩ := prot_all pa pb pv pd pe hP n hn
  have c4 := st_all pa pb pv pd pe p1 p2 p3 p4 p5 c s.1 s.2.1 s.2.2.1 (by omega) (by omega) (by omega) h3 k hk
  rw [step_eq pa pb pv pd pe p1 p2 p3 p4 p5 c s.1 s.2.1 s.2.2.1 (by omega) (by omega) (by omega) h3 p6 k] at c4
  exact ⟨_, _, c4⟩
theorem flo_pos {st : St2} (h : Inv n st) : ∀ fp, flo st = some fp → fp.length ≠ 0 := by
  intro fp hf
  simp only [flo, Option.map_eq_some_iff] at hf
  obtain ⟨nd, h1, rfl⟩ := hf
  have := h.last nd h1
  unfold pth
  rw [if_neg (by omega)]
  simp
theorem path_short {st : St2} (h : Inv n st) {i : Nat} (hi : i < st.1.length) : (pathAt st.1 i).length < 5000 := by
  have h1 := h.le hn.2
  have h2 : i < (pathsOf st.1).length := by rw [pathsOf_length]; exact hi
  have := paths_le st.1 h.par i h2
  unfold pathAt
  rw [getD_of_lt h2]
  omega
/-- One op. -/
theorem it_all {st : St2} (h : Inv n st) {i : Nat} (hi : i < st.1.length) {k : Int} (hk : 0 ≤ k ∧ k ≤ 2) {c : Nat} (hc : c < n) {q1 q2 : Nat} {xs : List Rd} (hq : QR q1 q2 xs st.1 (i + 1)) (ss : List Sd) :
    ∃ q1' q2' xs', QR q1' q2' xs' (visit (nextF pa pb pv pd pe) i k c st).1 (i + 1) ∧
      loopOf pr 46 2 ⟨S2 n k c q1 q2 (flo st) (nowAt st.1 i), HE pa pb pv pd pe xs (kvs st.1) ss (flo st)⟩ =
      loopOf pr 46 2 ⟨S2 n k ((c + 1 : Nat) : Int) q1' q2' (flo (visit (nextF pa pb pv pd pe) i k c st)) (nowAt (visit (nextF pa pb pv pd pe) i k c st).1 i), HE pa pb pv pd pe xs' (kvs (visit (nextF pa pb pv pd pe) i k c st).1) ss (flo (visit (nextF pa pb pv pd pe) i k c st))⟩ := by
  have hs : okS n (sysAt st.1 i) := h.ok _ (by rw [getD_of_lt hi]; exact List.getElem_mem hi)
  have hcl := clone_at pa pb pv pd pe hP n hn hs
  obtain ⟨se, bk, hst⟩ := step_at pa pb pv pd pe hP n hn hs hk hc
  have hs2 := nx_ok pa pb pv pd pe hP n hn _ k c hs hk.1 hk.2 hc
  have hps := path_short pa pb pv pd pe hP n hn h hi
  have hfo := flo_pos pa pb pv pd pe hP n hn h
  have hc' : (c : Int) < (n : Int) := by omega
  have hnn : (n : Int) ≤ 3 := by omega
  by_cases hfl : (nextF pa pb pv pd pe (sysAt st.1 i) k c).2 = true
  · have hv : visit (nextF pa pb pv pd pe) i k c st = (st.1, some (st.2.getD ((nextF pa pb pv pd pe (sysAt st.1 i) k c).1, (i : Int), (k, (c : Int), ()), ()))) := by
      unfold visit
      exact if_pos hfl
    rw [hv]
    rw [hfl] at hst
    refine ⟨q1, q2, xs, hq, ?_⟩
    have hf2 : flo (st.1, some (st.2.getD ((nextF pa pb pv pd pe (sysAt st.1 i) k c).1, (i : Int), (k, (c : Int), ()), ()))) = some ((flo st).getD (pathAt st.1 i ++ [(k, (c : Int), ())])) := by
      simp only [flo]
      cases st.2 with
      | some x => rfl
      | none =>
        simp only [Option.map_some, Option.getD_none, Option.map_none, pth, pathAt]
        rw [if_neg (by omega), Int.toNat_natCast]
    rw [hf2]
    exact it_flaw pa pb pv pd pe n k c hc' hnn _ _ _ _ hps xs hq.lt (kvs st.1) ss q1 q2 hq.sum _ _ _ se bk (flo st) hfo hcl hst
  · have hfl' : (nextF pa pb pv pd pe (sysAt st.1 i) k c).2 = false := by simpa using hfl
    rw [hfl'] at hst
    have hkey := call_key (nextF pa pb pv pd pe (sysAt st.1 i) k c).1 hn.2 hs2
    have hfi := find_kvs hs2 (ns := st.1) h.ok
    by_cases hh : has st.1 (nextF pa pb pv pd pe (sysAt st.1 i) k c).1 = true
    · have hv : visit (nextF pa pb pv pd pe) i k c st = st := by
        unfold visit
        have e : (nextF pa pb pv pd pe (st.1.getD i dN).1 k c).2 = false := hfl'
        rw [if_neg (by rw [e]; simp)]
        exact if_pos hh
      rw [hv]
      rw [if_pos hh] at hfi
      exact ⟨q1, q2, xs, hq, it_seen pa pb pv pd pe n k c hc' hnn _ _ _ _ hps xs hq.lt (kvs st.1) ss q1 q2 hq.sum _ _ _ se bk (flo st) hfo hcl hst _ hkey hfi⟩
    · have hv : visit (nextF pa pb pv pd pe) i k c st = (st.1 ++ [((nextF pa pb pv pd pe (sysAt st.1 i) k c).1, (i : Int), (k, (c : Int), ()), ())], st.2) := by
        unfold visit
        have e : (nextF pa pb pv pd pe (st.1.getD i dN).1 k c).2 = false := hfl'
        rw [if_neg (by rw [e]; simp)]
        exact if_neg hh
      have hinv := (visit_inv (nx_ok pa pb pv pd pe hP n hn) h hi hk.1 hk.2 hc).1
      rw [hv] at hinv
      rw [hv]
      rw [if_neg hh] at hfi
      have hupd := upd_kvs hs2 (ns := st.1) h.ok (by simpa using hh)
      have hq2 : (xs.drop q1).take q2 = (qAll st.1).drop (i + 1) := by
        rw [List.take_of_length_le (by rw [List.length_drop]; have := hq.sum; omega), hq.rest]
      have hpe : pth (pathsOf st.1) ((nextF pa pb pv pd pe (sysAt st.1 i) k c).1, (i : Int), (k, (c : Int), ()), ()) = pathAt st.1 i ++ [(k, (c : Int), ())] := by
        simp only [pth, pathAt]
        rw [if_neg (by omega), Int.toNat_natCast]
      have hqa : (qAll (st.1 ++ [((nextF pa pb pv pd pe (sysAt st.1 i) k c).1, (i : Int), (k, (c : Int), ()), ())])).drop (i + 1) = (qAll st.1).drop (i + 1) ++ [((nextF pa pb pv pd pe (sysAt st.1 i) k c).1, pathAt st.1 i ++ [(k, (c : Int), ())], ())] := by
        rw [qAll_snoc, List.drop_append_of_le_length (by rw [qAll_length]; omega), hpe]
      have hle : st.1.length + 1 ≤ 1024 := by simpa using hinv.le hn.2
      have hxl : ((xs.drop q1).take q2 ++ [((nextF pa pb pv pd pe (sysAt st.1 i) k c).1, pathAt st.1 i ++ [(k, (c : Int), ())], ())]).length < 5000 := by
        rw [hq2, ← hqa, List.length_drop, qAll_length, List.length_append]; simp only [List.length_cons, List.length_nil]; omega
      refine ⟨0, _, _, ⟨by rw [Nat.zero_add], by rw [List.drop_zero, hq2, hqa], hxl⟩, ?_⟩
      have hf2 : flo (st.1 ++ [((nextF pa pb pv pd pe (sysAt st.1 i) k c).1, (i : Int), (k, (c : Int), ()), ())], st.2) = flo st := by
        simp only [flo]
        cases hl : st.2 with
        | none => rfl
        | some nd =>
          obtain ⟨l1, l2⟩ := h.last nd hl
          simp only [Option.map_some, pth_more l1 l2]
      have hk2 : kvs (st.1 ++ [((nextF pa pb pv pd pe (sysAt st.1 i) k c).1, (i : Int), (k, (c : Int), ()), ())]) = kvs st.1 ++ [(key (nextF pa pb pv pd pe (sysAt st.1 i) k c).1, true)] := by simp [kvs]
      have hres := it_new pa pb pv pd pe n k c hc' hnn _ _ _ _ hps xs hq.lt (kvs st.1) ss q1 q2 hq.sum _ _ _ se bk (flo st) hfo hcl hst _ hkey hfi
      rw [hupd] at hres
      simp only [hf2, hk2]
      rw [nowAt_more hi]
      exact hres
/-- All ops of one kind. -/
theorem loop_c {i : Nat} {k : Int} (hk : 0 ≤ k ∧ k ≤ 2) (ss : List Sd) : ∀ (j : Nat) {st : St2} {q1 q2 : Nat} {xs : List Rd}, j ≤ n → Inv n st → i < st.1.length → QR q1 q2 xs st.1 (i + 1) →
    ∃ q1' q2' xs', QR q1' q2' xs' (visC (nextF pa pb pv pd pe) i n k j st).1 (i + 1) ∧
      loopOf pr 46 2 ⟨S2 n k ((n - j : Nat) : Int) q1 q2 (flo st) (nowAt st.1 i), HE pa pb pv pd pe xs (kvs st.1) ss (flo st)⟩ =
      some (.exit 4, ⟨S2 n k n q1' q2' (flo (visC (nextF pa pb pv pd pe) i n k j st)) (nowAt (visC (nextF pa pb pv pd pe) i n k j st).1 i), HE pa pb pv pd pe xs' (kvs (visC (nextF pa pb pv pd pe) i n k j st).1) ss (flo (visC (nextF pa pb pv pd pe) i n k j st))⟩)
  | 0, st, q1, q2, xs, _, h, hi, hq => by
    refine ⟨q1, q2, xs, hq, ?_⟩
    show loopOf pr 46 2 ⟨S2 n k n q1 q2 (flo st) (nowAt st.1 i), HE pa pb pv pd pe xs (kvs st.1) ss (flo st)⟩ = some (.exit 4, ⟨S2 n k n q1 q2 (flo st) (nowAt st.1 i), HE pa pb pv pd pe xs (kvs st.1) ss (flo st)⟩)
    exact ex_c_end pa pb pv pd pe n k q1 q2 (flo st) _ _ _ _ xs (kvs st.1) ss
  | j + 1, st, q1, q2, xs, hj, h, hi, hq => by
    obtain ⟨q1', q2', xs', hq', e1⟩ := it_all pa pb pv pd pe hP n hn h hi hk (c := n - (j + 1)) (by omega) hq ss
    obtain ⟨h', more, hm⟩ := visit_inv (nx_ok pa pb pv pd pe hP n hn) h hi hk.1 hk.2 (c := n - (j + 1)) (by omega)
    obtain ⟨q1'', q2'', xs'', hq'', e2⟩ := loop_c hk ss j (by omega) h' (by rw [hm]; simp; omega) hq'
    refine ⟨q1'', q2'', xs'', hq'', ?_⟩
    rw [e1, show n - (j + 1) + 1 = n - j from by omega]
    exact e2
end
theorem QR.len {q1 q2 : Nat} {xs : List Rd} {ns : List Nd} {i : Nat} (h : QR q1 q2 xs ns i) : q2 = ns.length - i := by
  have h1 := congrArg List.length h.rest
  rw [List.length_drop, List.length_drop, qAll_length] at h1
  have := h.sum
  omega
theorem QR.head {q1 q2 : Nat} {xs : List Rd} {ns : List Nd} {i : Nat} (h : QR q1 q2 xs ns i) (hi : i < ns.length) : ∀ z, xs.getD q1 z = (sysAt ns i, pathAt ns i, ()) := by
  intro z
  have h2 := h.len
  have h3 := h.sum
  have hx : q1 < xs.length := by omega
  have h1 : (xs.drop q1)[0]? = ((qAll ns).drop i)[0]? := by rw [h.rest]
  rw [List.getElem?_drop, List.getElem?_drop, Nat.add_zero, Nat.add_zero, List.getElem?_eq_getElem hx, List.getElem?_eq_getElem (by rw [qAll_length]; exact hi)] at h1
  rw [getD_of_lt hx]
  simp only [Option.some.injEq] at h1
  rw [h1, qAll_get hi]
  unfold sysAt pathAt
  rw [getD_of_lt hi, getD_of_lt (by rw [pathsOf_length]; exact hi)]
theorem QR.next {q1 q2 : Nat} {xs : List Rd} {ns : List Nd} {i : Nat} (h : QR q1 (q2 + 1) xs ns i) : QR (q1 + 1) q2 xs ns (i + 1) := by
  refine ⟨by have := h.sum; omega, ?_, h.lt⟩
  have := congrArg (List.drop 1) h.rest
  rw [List.drop_drop, List.drop_drop] at this
  exact this
section
variable (pa pb pv pd pe : List Ru) (hP : protB pa pb pv pd pe = true) (n : Nat) (hn : 1 ≤ n ∧ n ≤ 3)
include hP hn
/-- All kinds of ops. -/
theorem loop_k {i : Nat} (ss : List Sd) : ∀ (j : Nat) {st : St2} {q1 q2 : Nat} {xs : List Rd}, j ≤ 3 → Inv n st → i < st.1.length → QR q1 q2 xs st.1 (i + 1) →
    ∃ q1' q2' xs', QR q1' q2' xs' (visK (nextF pa pb pv pd pe) i n j st).1 (i + 1) ∧
      loopOf pr 46 1 ⟨S1 n ((3 - j : Nat) : Int) q1 q2 (flo st) (nowAt st.1 i), HE pa pb pv pd pe xs (kvs st.1) ss (flo st)⟩ =
      some (.exit 2, ⟨S1 n 3 q1' q2' (flo (visK (nextF pa pb pv pd pe) i n j st)) (nowAt (visK (nextF pa pb pv pd pe) i n j st).1 i), HE pa pb pv pd pe xs' (kvs (visK (nextF pa pb pv pd pe) i n j st).1) ss (flo (visK (nextF pa pb pv pd pe) i n j st))⟩)
  | 0, st, q1, q2, xs, _, h, hi, hq => ⟨q1, q2, xs, hq, ex_k_end pa pb pv pd pe n q1 q2 (flo st) _ _ _ _ xs (kvs st.1) ss⟩
  | j + 1, st, q1, q2, xs, hj, h, hi, hq => by
    have hk : (0 : Int) ≤ ((3 - (j + 1) : Nat) : Int) ∧ ((3 - (j + 1) : Nat) : Int) ≤ 2 := by omega
    obtain ⟨q1', q2', xs', hq', e1⟩ := loop_c pa pb pv pd pe hP n hn hk ss n (Nat.le_refl _) h hi hq
    obtain ⟨h', more, hm⟩ := visC_inv (nx_ok pa pb pv pd pe hP n hn) hk.1 hk.2 n (Nat.le_refl _) h hi
    obtain ⟨q1'', q2'', xs'', hq'', e2⟩ := loop_k ss j (by omega) h' (by rw [hm]; simp; omega) hq'
    refine ⟨q1'', q2'', xs'', hq'', ?_⟩
    rw [Nat.sub_self] at e1
    rw [ex_k pa pb pv pd pe n (3 - (j + 1)) (by omega) q1 q2 (flo st) _ _ _ _ xs (kvs st.1) ss q1' q2' _ _ _ _ _ xs' _ e1, show 3 - (j + 1) + 1 = 3 - j from by omega]
    exact e2
/-- What stays of a system's place. -/
theorem take_more {ns more : List Nd} {i : Nat} (hi : i < ns.length) : ((ns ++ more).take (i + 1)).map (·.1) = (ns.take i).map (·.1) ++ [sysAt ns i] := by
  rw [List.take_append_of_le_length (by omega), List.take_succ_eq_append_getElem hi, List.map_append]
  unfold sysAt
  rw [getD_of_lt hi]
  rfl
theorem loop_o : ∀ (f i : Nat) {st : St2} {q1 q2 : Nat} {xs : List Rd} (w : Sd) (o0 : List Od), 1025 ≤ f + i → i ≤ st.1.length → Inv n st → QR q1 q2 xs st.1 i →
    ∃ q1' xs', loopOf pr 46 0 ⟨S0t n q1 q2 (flo st) (now w.1 w.2.1 w.2.2.1 o0), HE pa pb pv pd pe xs (kvs st.1) ((st.1.take i).map (·.1)) (flo st)⟩ =
      some (.exit 0, ⟨S0 n q1' 0 (flo (bfs (nextF pa pb pv pd pe) n f i st)), HE pa pb pv pd pe xs' (kvs (bfs (nextF pa pb pv pd pe) n f i st).1) ((bfs (nextF pa pb pv pd pe) n f i st).1.map (·.1)) (flo (bfs (nextF pa pb pv pd pe) n f i st))⟩)
  | 0, i, st, q1, q2, xs, w, o0, hf, hi, h, hq => by
    have := h.le hn.2
    omega
  | f + 1, i, st, q1, q2, xs, w, o0, hf, hi, h, hq => by
    rw [bfs]
    by_cases hlt : i < st.1.length
    · rw [if_pos hlt]
      have hl := hq.len
      obtain ⟨q2, rfl⟩ : ∃ q, q2 = q + 1 := ⟨q2 - 1, by omega⟩
      obtain ⟨q1', q2', xs', hq', e1⟩ := loop_k pa pb pv pd pe hP n hn ((st.1.take i).map (·.1) ++ [sysAt st.1 i]) 3 (Nat.le_refl _) h hlt hq.next
      obtain ⟨h', more, hm⟩ := visK_inv (nx_ok pa pb pv pd pe hP n hn) (i := i) 3 (Nat.le_refl _) h hlt
      have hle := h.le hn.2
      have e2 := ex_o pa pb pv pd pe n q1 q2 (sysAt st.1 i).1 (sysAt st.1 i).2.1 (sysAt st.1 i).2.2.1 (pathAt st.1 i) xs (kvs st.1) hq.sum hq.lt (hq.head hlt) q1' q2' _ _ _ _ _ xs' _ ((st.1.take i).map (·.1)) (by simp; omega) (flo st) w.1 w.2.1 w.2.2.1 o0 e1
      obtain ⟨q1'', xs'', e3⟩ := loop_o f (i + 1) (st := visK (nextF pa pb pv pd pe) i n 3 st) (sysAt (visK (nextF pa pb pv pd pe) i n 3 st).1 i) (pathAt (visK (nextF pa pb pv pd pe) i n 3 st).1 i) (by omega) (by rw [hm]; simp; omega) h' hq'
      refine ⟨q1'', xs'', ?_⟩
      rw [e2, ← e3]
      have htk : ((visK (nextF pa pb pv pd pe) i n 3 st).1.take (i + 1)).map (·.1) = (st.1.take i).map (·.1) ++ [sysAt st.1 i] := by
        rw [hm]; exact take_more pa pb pv pd pe hP n hn hlt
      rw [htk]
    · rw [if_neg hlt]
      have hl := hq.len
      have h0 : q2 = 0 := by omega
      subst h0
      have : i = st.1.length := by omega
      subst this
      refine ⟨q1, xs, ?_⟩
      rw [List.take_length]
      exact ex_o_end pa pb pv pd pe n q1 (flo st) _ _ _ _ xs (kvs st.1) _
/-- The search, from the first system on. -/
theorem loop_all : ∃ q1' xs', loopOf pr 46 0 ⟨S0 n 0 1 none, HEd true pa pb pv pd pe [(first n, [], ())] [(key (first n), true)] [] none⟩ =
      some (.exit 0, ⟨S0 n q1' 0 (flo (found (nextF pa pb pv pd pe) n)), HE pa pb pv pd pe xs' (kvs (found (nextF pa pb pv pd pe) n).1) ((found (nextF pa pb pv pd pe) n).1.map (·.1)) (flo (found (nextF pa pb pv pd pe) n))⟩) := by
  have h := start_inv (n := n) hn.1
  have hq0 : QR 0 (0 + 1) [(first n, [], ())] (start n).1 0 := ⟨rfl, rfl, by simp⟩
  have hlt : 0 < (start n).1.length := by simp [start]
  obtain ⟨q1', q2', xs', hq', e1⟩ := loop_k pa pb pv pd pe hP n hn [first n] 3 (Nat.le_refl _) h hlt hq0.next
  obtain ⟨h', more, hm⟩ := visK_inv (nx_ok pa pb pv pd pe hP n hn) (i := 0) 3 (Nat.le_refl _) h hlt
  have e2 := ex_o0 pa pb pv pd pe n 0 0 (first n).1 (first n).2.1 (first n).2.2.1 [] [(first n, [], ())] [(key (first n), true)] rfl (by simp) (fun z => rfl) q1' q2' _ _ _ _ _ xs' _ e1
  obtain ⟨q1'', xs'', e3⟩ := loop_o pa pb pv pd pe hP n hn 1024 1 (st := visK (nextF pa pb pv pd pe) 0 n 3 (start n)) (sysAt (visK (nextF pa pb pv pd pe) 0 n 3 (start n)).1 0) (pathAt (visK (nextF pa pb pv pd pe) 0 n 3 (start n)).1 0) (by omega) (by rw [hm]; simp; omega) h' hq'
  refine ⟨q1'', xs'', ?_⟩
  have hf : found (nextF pa pb pv pd pe) n = bfs (nextF pa pb pv pd pe) n 1024 1 (visK (nextF pa pb pv pd pe) 0 n 3 (start n)) := by
    unfold found
    rw [bfs, if_pos hlt]
  rw [hf, ← e3]
  have htk : ((visK (nextF pa pb pv pd pe) 0 n 3 (start n)).1.take (0 + 1)).map (·.1) = [first n] := by
    rw [hm]
    exact take_more pa pb pv pd pe hP n hn hlt
  rw [show (1 : Nat) = 0 + 1 from rfl, htk]
  exact e2
/-- What the search hands back. -/
theorem call_ex : callOf pr 46 [pA pa pb pv pd pe, I n] [] = some (.tuple [.os (.t 1856), flV (flo (found (nextF pa pb pv pd pe) n))], (1856, .arr true false tS ((found (nextF pa pb pv pd pe) n).1.map (·.1))) :: flH (flo (found (nextF pa pb pv pd pe) n))) := by
  obtain ⟨q1', xs', hl⟩ := loop_all pa pb pv pd pe hP n hn
  have hfs := call_fs n hn
  have hs0 : okS n (first n) := (start_inv (n := n) hn.1).ok (first n, -1, (0, 0, ()), ()) (by simp [start])
  have hkey := call_key (first n) hn.2 hs0
  have hkey : callOf pr 91 [.agg [cI (List.replicate n 0), LB (List.replicate n false), B true]] [] = _ := hkey
  rw [call_eq pr 46 _ _ Try.f46 fn_46 _ rfl _ ann_46 rfl]
  rw [show ((first n, [], ()) : Rd) = ((List.replicate n 0, List.replicate n false, true, ()), [], ()) from rfl] at hl
  simp only [S0, HEd, flV, flH] at hl
  have hup : updL (tk := .str) (tv := .bool) (key (first n)) true [] = [(key (first n), true)] := rfl
  generalize flo (found (nextF pa pb pv pd pe) n) = fo at *
  cases fo with
  | none =>
    simp only [HE, flV, flH] at hl
    simp -implicitDefEqProofs only [flV, flH, hfs, hkey, hup, hl, go_sem, Nat.reduceAdd, Nat.reduceSub, Nat.reduceMul, Nat.reduceMod, Nat.reduceLT, Nat.reduceLeDiff, Nat.reduceEqDiff, Nat.reduceBEq, Nat.reduceDiv, Int.reduceLT, Int.reduceLE, Int.reduceToNat, Int.reduceNeg, Int.reduceEq, ↓reduceIte, reduceCtorEq, ↓reduceDIte] <;> rfl
  | some fp =>
    simp only [HE, flV, flH] at hl
    simp -implicitDefEqProofs only [flV, flH, hfs, hkey, hup, hl, go_sem, Nat.reduceAdd, Nat.reduceSub, Nat.reduceMul, Nat.reduceMod, Nat.reduceLT, Nat.reduceLeDiff, Nat.reduceEqDiff, Nat.reduceBEq, Nat.reduceDiv, Int.reduceLT, Int.reduceLE, Int.reduceToNat, Int.reduceNeg, Int.reduceEq, ↓reduceIte, reduceCtorEq, ↓reduceDIte] <;> rfl
end
end Go.Proofs.Ythmnlokdikomkaa.PI
