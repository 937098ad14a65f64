/- The law of the bound of transfers. -/
import Derived.Test.YtidodagkfbplaaaE14
namespace Go.Proofs.Ytidodagkfbplaaa.PI
open Go Go.Q
set_option maxRecDepth 100000
set_option maxHeartbeats 4000000
set_option linter.unusedSimpArgs false
theorem law_7 (xs : List (List Int)) (hb : xs.length < 1000000000000000000) (hc : ∀ x ∈ xs, x.length < 1000000000000000000) : callOf pr 7 [.agg [LL xs]] [] = some (B true, []) := by
  rw [call_eq pr 7 _ _ Try.f7 fn_7 _ rfl _ ann_7 rfl]
  have h9 := call_9 xs hb 1048576
  by_cases hneg : (szT xs 1048576).getD (-1) < 0
  · rw [if_pos hneg] at h9
    simp -implicitDefEqProofs only [h9, go_sem, Nat.reduceAdd, Nat.reduceSub, Nat.reduceMul, Nat.reduceMod, Nat.reduceLT, Nat.reduceLeDiff, Nat.reduceEqDiff, Nat.reduceBEq, Nat.reduceDiv, Int.reduceLT, Int.reduceLE, Int.reduceToNat, Int.reduceNeg, Int.reduceEq, ↓reduceIte, reduceCtorEq, ↓reduceDIte, Bool.false_eq_true, Bool.true_eq_false, ne_eq, not_true_eq_false, not_false_eq_true, Bool.true_or, Bool.false_or, Bool.or_true, Bool.or_false, Bool.true_and, Bool.false_and, Bool.and_true, Bool.and_false, Bool.not_true, Bool.not_false, Bool.not_eq_false', Bool.not_eq_true', and_true, true_and, and_false, false_and, or_true, true_or, or_false, false_or, and_self, or_self, decide_eq_true_eq, decide_true, decide_false, decide_eq_false_iff_not, ite_not, if_true, if_false, eq_self]
  · rw [if_neg hneg] at h9
    have hneg' : ((szT xs 1048576).getD (-1) < 0) = False := by simp only [hneg]
    have hbd : xs.length ≤ 1048576 ∧ ∀ x ∈ xs, x.length ≤ 1048576 := by
      cases hs : szT xs 1048576 with
      | none => rw [hs] at hneg; exact absurd (by decide) hneg
      | some l' => exact szT_bound xs l' hb hc hs
    have h11 := call_11 xs (by omega) (fun x hx => by have := hbd.2 x hx; omega)
    have h29 := call_29 xs hb hc
    have h13 := call_13 xs xs hb hc
    have h30 := call_30 xs (by omega) hc
    cases hv : specValid xs with
    | false =>
      rw [hv] at h29 h30
      have h29 : callOf pr 29 [.agg [LL xs]] [] = some (.tuple [I 0, B false], []) := h29
      have h30 : callOf pr 30 [.agg [LL xs]] [] = some (.tuple [I 0, B false], []) := h30
      simp -implicitDefEqProofs only [h9, hneg', h11, h29, h30, h13, decide_true, BEq.rfl, go_sem, Nat.reduceAdd, Nat.reduceSub, Nat.reduceMul, Nat.reduceMod, Nat.reduceLT, Nat.reduceLeDiff, Nat.reduceEqDiff, Nat.reduceBEq, Nat.reduceDiv, Int.reduceLT, Int.reduceLE, Int.reduceToNat, Int.reduceNeg, Int.reduceEq, ↓reduceIte, reduceCtorEq, ↓reduceDIte, Bool.false_eq_true, Bool.true_eq_false, ne_eq, not_true_eq_false, not_false_eq_true, Bool.true_or, Bool.false_or, Bool.or_true, Bool.or_false, Bool.true_and, Bool.false_and, Bool.and_true, Bool.and_false, Bool.not_true, Bool.not_false, Bool.not_eq_false', Bool.not_eq_true', and_true, true_and, and_false, false_and, or_true, true_or, or_false, false_or, and_self, or_self, decide_eq_true_eq, decide_true, decide_false, decide_eq_false_iff_not, ite_not, if_true, if_false, eq_self]
    | true =>
      rw [hv, if_pos rfl] at h29 h30
      simp -implicitDefEqProofs only [h9, hneg', h11, h29, h30, h13, decide_true, BEq.rfl, go_sem, Nat.reduceAdd, Nat.reduceSub, Nat.reduceMul, Nat.reduceMod, Nat.reduceLT, Nat.reduceLeDiff, Nat.reduceEqDiff, Nat.reduceBEq, Nat.reduceDiv, Int.reduceLT, Int.reduceLE, Int.reduceToNat, Int.reduceNeg, Int.reduceEq, ↓reduceIte, reduceCtorEq, ↓reduceDIte, Bool.false_eq_true, Bool.true_eq_false, ne_eq, not_true_eq_false, not_false_eq_true, Bool.true_or, Bool.false_or, Bool.or_true, Bool.or_false, Bool.true_and, Bool.false_and, Bool.and_true, Bool.and_false, Bool.not_true, Bool.not_false, Bool.not_eq_false', Bool.not_eq_true', and_true, true_and, and_false, false_and, or_true, true_or, or_false, false_or, and_self, or_self, decide_eq_true_eq, decide_true, decide_false, decide_eq_false_iff_not, ite_not, if_true, if_false, eq_self]
end Go.Proofs.Ytidodagkfbplaaa.PI
