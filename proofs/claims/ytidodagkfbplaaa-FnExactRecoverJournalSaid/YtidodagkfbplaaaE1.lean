/- How much of an argument's bound is left, told by equations. -/
import Derived.Test.YtidodagkfbplaaaGQLib
import Derived.Test.YtidodagkfbplaaaPIProg
namespace Go.Proofs.Ytidodagkfbplaaa.PI
open Go Go.Q
set_option maxRecDepth 100000
set_option maxHeartbeats 4000000
set_option linter.unusedSimpArgs false

theorem call_61 (a : List Int) (l : Int) : callOf pr 61 [L a, I l] [] = some (I (if IntKind.i64.wrap (l - a.length) < 0 then -1 else IntKind.i64.wrap (l - a.length)), []) := by
  rw [call_eq pr 61 _ _ Try.f61 fn_61 _ rfl _ ann_61 rfl]
  simp -implicitDefEqProofs only [go_sem, Nat.reduceAdd, Nat.reduceSub, Nat.reduceMul, Nat.reduceMod, Nat.reduceLT, Nat.reduceLeDiff, Nat.reduceEqDiff, Nat.reduceBEq, Nat.reduceDiv, Int.reduceLT, Int.reduceLE, Int.reduceToNat, Int.reduceNeg, Int.reduceEq, ↓reduceIte, reduceCtorEq, ↓reduceDIte, Bool.false_eq_true, Bool.true_eq_false, ne_eq, not_true_eq_false, not_false_eq_true, Bool.true_or, Bool.false_or, Bool.or_true, Bool.or_false, Bool.true_and, Bool.false_and, Bool.and_true, Bool.and_false, Bool.not_true, Bool.not_false, Bool.not_eq_false', Bool.not_eq_true', and_true, true_and, and_false, false_and, or_true, true_or, or_false, false_or, and_self, or_self, decide_eq_true_eq, decide_true, decide_false, decide_eq_false_iff_not, ite_not, if_true, if_false, eq_self]
  split <;> rfl

/-- What is left of a bound. -/
def szL : List (List Int) → Int → Option Int
  | [], l => some l
  | x :: xs, l => if IntKind.i64.wrap (l - x.length) < 0 then none else szL xs (IntKind.i64.wrap (l - x.length))

theorem loop_33 (xs : List (List Int)) (hb : xs.length < 1000000000000000000) : ∀ (n k : Nat) (l : Int), k + n = xs.length →
    loopOf pr 33 0 ⟨[(0, LL xs), (1, I l), (5, I k)], []⟩ = match szL (xs.drop k) l with
    | some l' => some (.exit 0, ⟨[(0, LL xs), (1, I l'), (5, I xs.length)], []⟩)
    | none => some (.ret, ⟨[(4, I (-1))], []⟩)
  | 0, k, l, h => by
    rw [List.drop_of_length_le (by omega)]
    simp only [szL]
    rw [loop_eq pr 33 0 _ Try.f33 fn_33 _ rfl _ ann_33 _ rfl]
    have : k = xs.length := by omega
    subst this
    simp -implicitDefEqProofs only [Int.lt_irrefl, go_sem, Nat.reduceAdd, Nat.reduceSub, Nat.reduceMul, Nat.reduceMod, Nat.reduceLT, Nat.reduceLeDiff, Nat.reduceEqDiff, Nat.reduceBEq, Nat.reduceDiv, Int.reduceLT, Int.reduceLE, Int.reduceToNat, Int.reduceNeg, Int.reduceEq, ↓reduceIte, reduceCtorEq, ↓reduceDIte, Bool.false_eq_true, Bool.true_eq_false, ne_eq, not_true_eq_false, not_false_eq_true, Bool.true_or, Bool.false_or, Bool.or_true, Bool.or_false, Bool.true_and, Bool.false_and, Bool.and_true, Bool.and_false, Bool.not_true, Bool.not_false, Bool.not_eq_false', Bool.not_eq_true', and_true, true_and, and_false, false_and, or_true, true_or, or_false, false_or, and_self, or_self, decide_eq_true_eq, decide_true, decide_false, decide_eq_false_iff_not, ite_not, if_true, if_false, eq_self]
  | n + 1, k, l, h => by
    have hlt : k < xs.length := by omega
    rw [List.drop_eq_getElem_cons hlt]
    have ih := loop_33 xs hb n (k + 1) (IntKind.i64.wrap (l - xs[k].length)) (by omega)
    simp only [szL]
    rw [loop_eq pr 33 0 _ Try.f33 fn_33 _ rfl _ ann_33 _ rfl]
    simp -implicitDefEqProofs only [lt_cast hlt, zero_le_cast, Int.toNat_natCast, getD_of_lt hlt, call_61, wrap_succ hlt hb, go_sem, Nat.reduceAdd, Nat.reduceSub, Nat.reduceMul, Nat.reduceMod, Nat.reduceLT, Nat.reduceLeDiff, Nat.reduceEqDiff, Nat.reduceBEq, Nat.reduceDiv, Int.reduceLT, Int.reduceLE, Int.reduceToNat, Int.reduceNeg, Int.reduceEq, ↓reduceIte, reduceCtorEq, ↓reduceDIte, Bool.false_eq_true, Bool.true_eq_false, ne_eq, not_true_eq_false, not_false_eq_true, Bool.true_or, Bool.false_or, Bool.or_true, Bool.or_false, Bool.true_and, Bool.false_and, Bool.and_true, Bool.and_false, Bool.not_true, Bool.not_false, Bool.not_eq_false', Bool.not_eq_true', and_true, true_and, and_false, false_and, or_true, true_or, or_false, false_or, and_self, or_self, decide_eq_true_eq, decide_true, decide_false, decide_eq_false_iff_not, ite_not, if_true, if_false, eq_self]
    by_cases hneg : IntKind.i64.wrap (l - xs[k].length) < 0
    · simp only [if_pos hneg]
      rfl
    · simp only [if_neg hneg]
      exact ih

def szT (xs : List (List Int)) (l : Int) : Option Int := if IntKind.i64.wrap (l - xs.length) < 0 then none else szL xs (IntKind.i64.wrap (l - xs.length))

theorem call_33 (xs : List (List Int)) (hb : xs.length < 1000000000000000000) (l : Int) : callOf pr 33 [LL xs, I l] [] = some (I ((szT xs l).getD (-1)), []) := by
  rw [call_eq pr 33 _ _ Try.f33 fn_33 _ rfl _ ann_33 rfl]
  simp -implicitDefEqProofs only [go_sem, Nat.reduceAdd, Nat.reduceSub, Nat.reduceMul, Nat.reduceMod, Nat.reduceLT, Nat.reduceLeDiff, Nat.reduceEqDiff, Nat.reduceBEq, Nat.reduceDiv, Int.reduceLT, Int.reduceLE, Int.reduceToNat, Int.reduceNeg, Int.reduceEq, ↓reduceIte, reduceCtorEq, ↓reduceDIte, Bool.false_eq_true, Bool.true_eq_false, ne_eq, not_true_eq_false, not_false_eq_true, Bool.true_or, Bool.false_or, Bool.or_true, Bool.or_false, Bool.true_and, Bool.false_and, Bool.and_true, Bool.and_false, Bool.not_true, Bool.not_false, Bool.not_eq_false', Bool.not_eq_true', and_true, true_and, and_false, false_and, or_true, true_or, or_false, false_or, and_self, or_self, decide_eq_true_eq, decide_true, decide_false, decide_eq_false_iff_not, ite_not, if_true, if_false, eq_self]
  simp only [szT]
  split
  · rfl
  · have h : loopOf pr 33 0 ⟨[(0, LL xs), (1, I (IntKind.i64.wrap (l - xs.length))), (5, I 0)], []⟩ = _ := loop_33 xs hb xs.length 0 (IntKind.i64.wrap (l - xs.length)) (by omega)
    rw [List.drop_zero] at h
    cases hs : szL xs (IntKind.i64.wrap (l - xs.length)) with
    | some l' =>
      rw [hs] at h
      simp -implicitDefEqProofs only [h, go_sem, Nat.reduceAdd, Nat.reduceSub, Nat.reduceMul, Nat.reduceMod, Nat.reduceLT, Nat.reduceLeDiff, Nat.reduceEqDiff, Nat.reduceBEq, Nat.reduceDiv, Int.reduceLT, Int.reduceLE, Int.reduceToNat, Int.reduceNeg, Int.reduceEq, ↓reduceIte, reduceCtorEq, ↓reduceDIte, Bool.false_eq_true, Bool.true_eq_false, ne_eq, not_true_eq_false, not_false_eq_true, Bool.true_or, Bool.false_or, Bool.or_true, Bool.or_false, Bool.true_and, Bool.false_and, Bool.and_true, Bool.and_false, Bool.not_true, Bool.not_false, Bool.not_eq_false', Bool.not_eq_true', and_true, true_and, and_false, false_and, or_true, true_or, or_false, false_or, and_self, or_self, decide_eq_true_eq, decide_true, decide_false, decide_eq_false_iff_not, ite_not, if_true, if_false, eq_self]
    | none =>
      rw [hs] at h
      simp -implicitDefEqProofs only [h, go_sem, Nat.reduceAdd, Nat.reduceSub, Nat.reduceMul, Nat.reduceMod, Nat.reduceLT, Nat.reduceLeDiff, Nat.reduceEqDiff, Nat.reduceBEq, Nat.reduceDiv, Int.reduceLT, Int.reduceLE, Int.reduceToNat, Int.reduceNeg, Int.reduceEq, ↓reduceIte, reduceCtorEq, ↓reduceDIte, Bool.false_eq_true, Bool.true_eq_false, ne_eq, not_true_eq_false, not_false_eq_true, Bool.true_or, Bool.false_or, Bool.or_true, Bool.or_false, Bool.true_and, Bool.false_and, Bool.and_true, Bool.and_false, Bool.not_true, Bool.not_false, Bool.not_eq_false', Bool.not_eq_true', and_true, true_and, and_false, false_and, or_true, true_or, or_false, false_or, and_self, or_self, decide_eq_true_eq, decide_true, decide_false, decide_eq_false_iff_not, ite_not, if_true, if_false, eq_self]

theorem call_9 (xs : List (List Int)) (hb : xs.length < 1000000000000000000) (l : Int) : callOf pr 9 [.agg [LL xs], I l] [] = some (I (if (szT xs l).getD (-1) < 0 then -1 else (szT xs l).getD (-1)), []) := by
  rw [call_eq pr 9 _ _ Try.f9 fn_9 _ rfl _ ann_9 rfl]
  simp -implicitDefEqProofs only [call_33 xs hb, go_sem, Nat.reduceAdd, Nat.reduceSub, Nat.reduceMul, Nat.reduceMod, Nat.reduceLT, Nat.reduceLeDiff, Nat.reduceEqDiff, Nat.reduceBEq, Nat.reduceDiv, Int.reduceLT, Int.reduceLE, Int.reduceToNat, Int.reduceNeg, Int.reduceEq, ↓reduceIte, reduceCtorEq, ↓reduceDIte, Bool.false_eq_true, Bool.true_eq_false, ne_eq, not_true_eq_false, not_false_eq_true, Bool.true_or, Bool.false_or, Bool.or_true, Bool.or_false, Bool.true_and, Bool.false_and, Bool.and_true, Bool.and_false, Bool.not_true, Bool.not_false, Bool.not_eq_false', Bool.not_eq_true', and_true, true_and, and_false, false_and, or_true, true_or, or_false, false_or, and_self, or_self, decide_eq_true_eq, decide_true, decide_false, decide_eq_false_iff_not, ite_not, if_true, if_false, eq_self]
  split <;> rfl
end Go.Proofs.Ytidodagkfbplaaa.PI
