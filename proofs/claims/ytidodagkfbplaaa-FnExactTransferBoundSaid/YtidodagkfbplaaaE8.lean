/- What is marked and held: lists of numbers. -/
import Derived.Test.YtidodagkfbplaaaE7
namespace Go.Proofs.Ytidodagkfbplaaa.PI
open Go Go.Q
set_option maxRecDepth 100000
set_option maxHeartbeats 4000000
set_option linter.unusedSimpArgs false

/-- The marks. -/
def markL (m : Int) : Nat → List Int
  | 0 => []
  | n + 1 => m :: markL (m + 1) n
theorem markL_length (m : Int) (n : Nat) : (markL m n).length = n := by
  induction n generalizing m with
  | zero => rfl
  | succ n ih => simp [markL, ih]
theorem markL_getD (m : Int) (n i : Nat) (h : i < n) : (markL m n).getD i 0 = m + i := by
  induction n generalizing m i with
  | zero => omega
  | succ n ih =>
    cases i with
    | zero => simp [markL]
    | succ i =>
      have := ih (m + 1) i (by omega)
      simp only [markL, List.getD_cons_succ, this]
      omega
theorem markL_succ (m : Int) (k : Nat) : markL m (k + 1) = markL m k ++ [m + k] := by
  induction k generalizing m with
  | zero => simp [markL]
  | succ k ih =>
    show m :: markL (m + 1) (k + 1) = (m :: markL (m + 1) k) ++ [m + ((k + 1 : Nat) : Int)]
    rw [ih (m + 1), List.cons_append]
    congr 2
    rw [show m + 1 + (k : Int) = m + ((k + 1 : Nat) : Int) from by omega]
theorem mark_step (xs : List Int) (m : Int) (k : Nat) (h : k < xs.length) : (markL m k ++ xs.drop k).set k (m + k) = markL m (k + 1) ++ xs.drop (k + 1) := by
  rw [List.set_append_right _ _ (by rw [markL_length]; omega), markL_length, Nat.sub_self, List.drop_eq_getElem_cons h, List.set_cons_zero, markL_succ, List.append_assoc]
  rfl

theorem loop_27 (xs : List Int) (hb : xs.length < 1000000000000000000) (m : Int) (h0 : 0 ≤ m) (h1 : m < 1000000000000000000) : ∀ (n k : Nat), k + n = xs.length →
    loopOf pr 27 0 ⟨[(0, .os (.t 1000000)), (1, I (m + k)), (5, I k)], [(1000000, .arr false false (.int .i64) (markL m k ++ xs.drop k))]⟩ = some (.exit 0, ⟨[(0, .os (.t 1000000)), (1, I (m + xs.length)), (5, I xs.length)], [(1000000, .arr false false (.int .i64) (markL m xs.length))]⟩)
  | 0, k, h => by
    have : k = xs.length := by omega
    subst this
    rw [loop_eq pr 27 0 _ Try.f27 fn_27 _ rfl _ ann_27 _ rfl]
    rw [List.drop_length, List.append_nil]
    simp -implicitDefEqProofs only [Int.lt_irrefl, markL_length, go_sem, Nat.reduceAdd, Nat.reduceSub, Nat.reduceMul, Nat.reduceMod, Nat.reduceLT, Nat.reduceLeDiff, Nat.reduceEqDiff, Nat.reduceBEq, Nat.reduceDiv, Int.reduceLT, Int.reduceLE, Int.reduceToNat, Int.reduceNeg, Int.reduceEq, ↓reduceIte, reduceCtorEq, ↓reduceDIte, Bool.false_eq_true, Bool.true_eq_false, ne_eq, not_true_eq_false, not_false_eq_true, Bool.true_or, Bool.false_or, Bool.or_true, Bool.or_false, Bool.true_and, Bool.false_and, Bool.and_true, Bool.and_false, Bool.not_true, Bool.not_false, Bool.not_eq_false', Bool.not_eq_true', and_true, true_and, and_false, false_and, or_true, true_or, or_false, false_or, and_self, or_self, decide_eq_true_eq, decide_true, decide_false, decide_eq_false_iff_not, ite_not, if_true, if_false, eq_self]
  | n + 1, k, h => by
    have hlt : k < xs.length := by omega
    have ih := loop_27 xs hb m h0 h1 n (k + 1) (by omega)
    have hl : (markL m k ++ xs.drop k).length = xs.length := by simp [markL_length]; omega
    have hf := mark_step xs m k hlt
    have hw : IntKind.i64.wrap (m + k + 1) = m + ((k + 1 : Nat) : Int) := by rw [wrap_i] <;> omega
    rw [loop_eq pr 27 0 _ Try.f27 fn_27 _ rfl _ ann_27 _ rfl]
    simp -implicitDefEqProofs only [lt_cast hlt, zero_le_cast, Int.toNat_natCast, wrap_succ hlt hb, hl, hf, hw, go_sem, Nat.reduceAdd, Nat.reduceSub, Nat.reduceMul, Nat.reduceMod, Nat.reduceLT, Nat.reduceLeDiff, Nat.reduceEqDiff, Nat.reduceBEq, Nat.reduceDiv, Int.reduceLT, Int.reduceLE, Int.reduceToNat, Int.reduceNeg, Int.reduceEq, ↓reduceIte, reduceCtorEq, ↓reduceDIte, Bool.false_eq_true, Bool.true_eq_false, ne_eq, not_true_eq_false, not_false_eq_true, Bool.true_or, Bool.false_or, Bool.or_true, Bool.or_false, Bool.true_and, Bool.false_and, Bool.and_true, Bool.and_false, Bool.not_true, Bool.not_false, Bool.not_eq_false', Bool.not_eq_true', and_true, true_and, and_false, false_and, or_true, true_or, or_false, false_or, and_self, or_self, decide_eq_true_eq, decide_true, decide_false, decide_eq_false_iff_not, ite_not, if_true, if_false, eq_self]
    exact ih

theorem call_27 (xs : List Int) (hb : xs.length < 1000000000000000000) (m : Int) (h0 : 0 ≤ m) (h1 : m < 1000000000000000000) : callOf pr 27 [.os (.t 1000000), I m] [(1000000, .arr false false (.int .i64) xs)] = some (I (m + xs.length), [(1000000, .arr false false (.int .i64) (markL m xs.length))]) := by
  have h := loop_27 xs hb m h0 h1 xs.length 0 (by omega)
  simp only [markL, List.drop_zero, List.nil_append, Int.natCast_zero, Int.add_zero] at h
  rw [call_eq pr 27 _ _ Try.f27 fn_27 _ rfl _ ann_27 rfl]
  simp -implicitDefEqProofs only [h, go_sem, Nat.reduceAdd, Nat.reduceSub, Nat.reduceMul, Nat.reduceMod, Nat.reduceLT, Nat.reduceLeDiff, Nat.reduceEqDiff, Nat.reduceBEq, Nat.reduceDiv, Int.reduceLT, Int.reduceLE, Int.reduceToNat, Int.reduceNeg, Int.reduceEq, ↓reduceIte, reduceCtorEq, ↓reduceDIte, Bool.false_eq_true, Bool.true_eq_false, ne_eq, not_true_eq_false, not_false_eq_true, Bool.true_or, Bool.false_or, Bool.or_true, Bool.or_false, Bool.true_and, Bool.false_and, Bool.and_true, Bool.and_false, Bool.not_true, Bool.not_false, Bool.not_eq_false', Bool.not_eq_true', and_true, true_and, and_false, false_and, or_true, true_or, or_false, false_or, and_self, or_self, decide_eq_true_eq, decide_true, decide_false, decide_eq_false_iff_not, ite_not, if_true, if_false, eq_self]

theorem loop_28 (m : Int) (h0 : 0 ≤ m) (h1 : m < 1000000000000000000) (xs : List Int) (hx : xs = markL m xs.length) (hb : xs.length < 1000000000000000000) : ∀ (n k : Nat), k + n = xs.length →
    loopOf pr 28 0 ⟨[(0, L xs), (1, I (m + k)), (5, I k)], []⟩ = some (.exit 0, ⟨[(0, L xs), (1, I (m + xs.length)), (5, I xs.length)], []⟩)
  | 0, k, h => by
    have : k = xs.length := by omega
    subst this
    rw [loop_eq pr 28 0 _ Try.f28 fn_28 _ rfl _ ann_28 _ rfl]
    simp -implicitDefEqProofs only [Int.lt_irrefl, go_sem, Nat.reduceAdd, Nat.reduceSub, Nat.reduceMul, Nat.reduceMod, Nat.reduceLT, Nat.reduceLeDiff, Nat.reduceEqDiff, Nat.reduceBEq, Nat.reduceDiv, Int.reduceLT, Int.reduceLE, Int.reduceToNat, Int.reduceNeg, Int.reduceEq, ↓reduceIte, reduceCtorEq, ↓reduceDIte, Bool.false_eq_true, Bool.true_eq_false, ne_eq, not_true_eq_false, not_false_eq_true, Bool.true_or, Bool.false_or, Bool.or_true, Bool.or_false, Bool.true_and, Bool.false_and, Bool.and_true, Bool.and_false, Bool.not_true, Bool.not_false, Bool.not_eq_false', Bool.not_eq_true', and_true, true_and, and_false, false_and, or_true, true_or, or_false, false_or, and_self, or_self, decide_eq_true_eq, decide_true, decide_false, decide_eq_false_iff_not, ite_not, if_true, if_false, eq_self]
  | n + 1, k, h => by
    have hlt : k < xs.length := by omega
    have ih := loop_28 m h0 h1 xs hx hb n (k + 1) (by omega)
    have hg : xs.getD k 0 = m + k := by rw [hx, markL_getD _ _ _ hlt]
    have hw : IntKind.i64.wrap (m + k + 1) = m + ((k + 1 : Nat) : Int) := by rw [wrap_i] <;> omega
    rw [loop_eq pr 28 0 _ Try.f28 fn_28 _ rfl _ ann_28 _ rfl]
    simp -implicitDefEqProofs only [lt_cast hlt, zero_le_cast, Int.toNat_natCast, wrap_succ hlt hb, hg, hw, go_sem, Nat.reduceAdd, Nat.reduceSub, Nat.reduceMul, Nat.reduceMod, Nat.reduceLT, Nat.reduceLeDiff, Nat.reduceEqDiff, Nat.reduceBEq, Nat.reduceDiv, Int.reduceLT, Int.reduceLE, Int.reduceToNat, Int.reduceNeg, Int.reduceEq, ↓reduceIte, reduceCtorEq, ↓reduceDIte, Bool.false_eq_true, Bool.true_eq_false, ne_eq, not_true_eq_false, not_false_eq_true, Bool.true_or, Bool.false_or, Bool.or_true, Bool.or_false, Bool.true_and, Bool.false_and, Bool.and_true, Bool.and_false, Bool.not_true, Bool.not_false, Bool.not_eq_false', Bool.not_eq_true', and_true, true_and, and_false, false_and, or_true, true_or, or_false, false_or, and_self, or_self, decide_eq_true_eq, decide_true, decide_false, decide_eq_false_iff_not, ite_not, if_true, if_false, eq_self]
    exact ih
theorem call_28 (m : Int) (n : Nat) (h0 : 0 ≤ m) (h1 : m < 1000000000000000000) (hb : n < 1000000000000000000) : callOf pr 28 [L (markL m n), I m] [] = some (I (m + n), []) := by
  have h := loop_28 m h0 h1 (markL m n) (by rw [markL_length]) (by rw [markL_length]; exact hb) n 0 (by rw [markL_length]; omega)
  simp only [Int.natCast_zero, Int.add_zero, markL_length] at h
  rw [call_eq pr 28 _ _ Try.f28 fn_28 _ rfl _ ann_28 rfl]
  simp -implicitDefEqProofs only [h, go_sem, Nat.reduceAdd, Nat.reduceSub, Nat.reduceMul, Nat.reduceMod, Nat.reduceLT, Nat.reduceLeDiff, Nat.reduceEqDiff, Nat.reduceBEq, Nat.reduceDiv, Int.reduceLT, Int.reduceLE, Int.reduceToNat, Int.reduceNeg, Int.reduceEq, ↓reduceIte, reduceCtorEq, ↓reduceDIte, Bool.false_eq_true, Bool.true_eq_false, ne_eq, not_true_eq_false, not_false_eq_true, Bool.true_or, Bool.false_or, Bool.or_true, Bool.or_false, Bool.true_and, Bool.false_and, Bool.and_true, Bool.and_false, Bool.not_true, Bool.not_false, Bool.not_eq_false', Bool.not_eq_true', and_true, true_and, and_false, false_and, or_true, true_or, or_false, false_or, and_self, or_self, decide_eq_true_eq, decide_true, decide_false, decide_eq_false_iff_not, ite_not, if_true, if_false, eq_self]

/-- The marks of lists of lists, and the number behind them. -/
def markLL (m : Int) : List (List Int) → List (List Int) × Int
  | [] => ([], m)
  | x :: xs => (markL m x.length :: (markLL (m + x.length) xs).1, (markLL (m + x.length) xs).2)
theorem markLL_length (xs : List (List Int)) (m : Int) : (markLL m xs).1.length = xs.length := by
  induction xs generalizing m with
  | nil => rfl
  | cons x xs ih => simp [markLL, ih]
theorem loop_54 (ys : List (List Int)) (xs : List (List Int)) (m : Int) (h0 : 0 ≤ m) (h1 : m + 2000000 * xs.length < 1000000000000000000) (hb : ys.length + xs.length < 1000000000000000000) (hc : ∀ x ∈ xs, x.length < 2000000) :
    loopOf pr 54 0 ⟨[(0, .os (.t 1000000)), (1, I m), (5, I ys.length)], [(1000000, .arr false true (.slice (.int .i64)) (ys ++ xs))]⟩ = some (.exit 0, ⟨[(0, .os (.t 1000000)), (1, I (markLL m xs).2), (5, I ((ys.length + xs.length : Nat) : Int))], [(1000000, .arr false true (.slice (.int .i64)) (ys ++ (markLL m xs).1))]⟩) := by
  induction xs generalizing ys m with
  | nil =>
    rw [loop_eq pr 54 0 _ Try.f54 fn_54 _ rfl _ ann_54 _ rfl]
    simp -implicitDefEqProofs only [Int.lt_irrefl, go_sem, Nat.reduceAdd, Nat.reduceSub, Nat.reduceMul, Nat.reduceMod, Nat.reduceLT, Nat.reduceLeDiff, Nat.reduceEqDiff, Nat.reduceBEq, Nat.reduceDiv, Int.reduceLT, Int.reduceLE, Int.reduceToNat, Int.reduceNeg, Int.reduceEq, ↓reduceIte, reduceCtorEq, ↓reduceDIte, Bool.false_eq_true, Bool.true_eq_false, ne_eq, not_true_eq_false, not_false_eq_true, Bool.true_or, Bool.false_or, Bool.or_true, Bool.or_false, Bool.true_and, Bool.false_and, Bool.and_true, Bool.and_false, Bool.not_true, Bool.not_false, Bool.not_eq_false', Bool.not_eq_true', and_true, true_and, and_false, false_and, or_true, true_or, or_false, false_or, and_self, or_self, decide_eq_true_eq, decide_true, decide_false, decide_eq_false_iff_not, ite_not, if_true, if_false, eq_self]
    simp only [markLL, List.append_nil, List.length_nil, Nat.add_zero]
  | cons x xs ih =>
    have hx : x.length < 2000000 := hc x (by simp)
    simp only [List.length_cons] at h1 hb
    have ih := ih (ys ++ [markL m x.length]) (m + x.length) (by omega) (by omega) (by simp; omega) (fun z hz => hc z (by simp [hz]))
    have h27 := call_27 x (by omega) m h0 (by omega)
    have hlt : ys.length < (ys ++ x :: xs).length := by simp
    have hg : (ys ++ x :: xs).getD ys.length [] = x := by simp
    have hs : (ys ++ x :: xs).set ys.length (markL m x.length) = ys ++ markL m x.length :: xs := by simp
    rw [loop_eq pr 54 0 _ Try.f54 fn_54 _ rfl _ ann_54 _ rfl]
    simp -implicitDefEqProofs only [hlt, lt_cast hlt, zero_le_cast, Int.toNat_natCast, wrap_succ hlt (by simp; omega), h27, hg, hs, go_sem, Nat.reduceAdd, Nat.reduceSub, Nat.reduceMul, Nat.reduceMod, Nat.reduceLT, Nat.reduceLeDiff, Nat.reduceEqDiff, Nat.reduceBEq, Nat.reduceDiv, Int.reduceLT, Int.reduceLE, Int.reduceToNat, Int.reduceNeg, Int.reduceEq, ↓reduceIte, reduceCtorEq, ↓reduceDIte, Bool.false_eq_true, Bool.true_eq_false, ne_eq, not_true_eq_false, not_false_eq_true, Bool.true_or, Bool.false_or, Bool.or_true, Bool.or_false, Bool.true_and, Bool.false_and, Bool.and_true, Bool.and_false, Bool.not_true, Bool.not_false, Bool.not_eq_false', Bool.not_eq_true', and_true, true_and, and_false, false_and, or_true, true_or, or_false, false_or, and_self, or_self, decide_eq_true_eq, decide_true, decide_false, decide_eq_false_iff_not, ite_not, if_true, if_false, eq_self]
    have e1 : (ys ++ [markL m x.length]).length = ys.length + 1 := by simp
    rw [e1, List.append_assoc, List.append_assoc] at ih
    have e2 : ys.length + (xs.length + 1) = ys.length + 1 + xs.length := by omega
    rw [e2]
    exact ih

theorem call_54 (xs : List (List Int)) (m : Int) (h0 : 0 ≤ m) (h1 : m + 2000000 * xs.length < 1000000000000000000) (hb : xs.length < 1000000000000000000) (hc : ∀ x ∈ xs, x.length < 2000000) : callOf pr 54 [.os (.t 1000000), I m] [(1000000, .arr false true (.slice (.int .i64)) xs)] = some (I (markLL m xs).2, [(1000000, .arr false true (.slice (.int .i64)) (markLL m xs).1)]) := by
  have h := loop_54 [] xs m h0 h1 (by simpa using hb) hc
  simp only [List.nil_append, List.length_nil, Nat.zero_add] at h
  have h : loopOf pr 54 0 ⟨[(0, .os (.t 1000000)), (1, I m), (5, I 0)], [(1000000, .arr false true (.slice (.int .i64)) xs)]⟩ = _ := h
  rw [call_eq pr 54 _ _ Try.f54 fn_54 _ rfl _ ann_54 rfl]
  simp -implicitDefEqProofs only [h, go_sem, Nat.reduceAdd, Nat.reduceSub, Nat.reduceMul, Nat.reduceMod, Nat.reduceLT, Nat.reduceLeDiff, Nat.reduceEqDiff, Nat.reduceBEq, Nat.reduceDiv, Int.reduceLT, Int.reduceLE, Int.reduceToNat, Int.reduceNeg, Int.reduceEq, ↓reduceIte, reduceCtorEq, ↓reduceDIte, Bool.false_eq_true, Bool.true_eq_false, ne_eq, not_true_eq_false, not_false_eq_true, Bool.true_or, Bool.false_or, Bool.or_true, Bool.or_false, Bool.true_and, Bool.false_and, Bool.and_true, Bool.and_false, Bool.not_true, Bool.not_false, Bool.not_eq_false', Bool.not_eq_true', and_true, true_and, and_false, false_and, or_true, true_or, or_false, false_or, and_self, or_self, decide_eq_true_eq, decide_true, decide_false, decide_eq_false_iff_not, ite_not, if_true, if_false, eq_self]
theorem call_26 (xs : List (List Int)) (m : Int) (h0 : 0 ≤ m) (h1 : m + 2000000 * xs.length < 1000000000000000000) (hb : xs.length < 1000000000000000000) (hc : ∀ x ∈ xs, x.length < 2000000) : callOf pr 26 [.agg [.os (.t 1000000)], I m] [(1000000, .arr false true (.slice (.int .i64)) xs)] = some (I (markLL m xs).2, [(1000000, .arr false true (.slice (.int .i64)) (markLL m xs).1)]) := by
  have h := call_54 xs m h0 h1 hb hc
  rw [call_eq pr 26 _ _ Try.f26 fn_26 _ rfl _ ann_26 rfl]
  simp -implicitDefEqProofs only [h, go_sem, Nat.reduceAdd, Nat.reduceSub, Nat.reduceMul, Nat.reduceMod, Nat.reduceLT, Nat.reduceLeDiff, Nat.reduceEqDiff, Nat.reduceBEq, Nat.reduceDiv, Int.reduceLT, Int.reduceLE, Int.reduceToNat, Int.reduceNeg, Int.reduceEq, ↓reduceIte, reduceCtorEq, ↓reduceDIte, Bool.false_eq_true, Bool.true_eq_false, ne_eq, not_true_eq_false, not_false_eq_true, Bool.true_or, Bool.false_or, Bool.or_true, Bool.or_false, Bool.true_and, Bool.false_and, Bool.and_true, Bool.and_false, Bool.not_true, Bool.not_false, Bool.not_eq_false', Bool.not_eq_true', and_true, true_and, and_false, false_and, or_true, true_or, or_false, false_or, and_self, or_self, decide_eq_true_eq, decide_true, decide_false, decide_eq_false_iff_not, ite_not, if_true, if_false, eq_self]
theorem markLL_ge (xs : List (List Int)) (m : Int) : m ≤ (markLL m xs).2 := by
  induction xs generalizing m with
  | nil => exact Int.le_refl _
  | cons x xs ih => have := ih (m + x.length); simp only [markLL]; omega
end Go.Proofs.Ytidodagkfbplaaa.PI
