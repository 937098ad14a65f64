/- The reference's functions of the first law. -/
import Derived.Test.YtidodagkfbplaaaE1
namespace Go.Proofs.Ytidodagkfbplaaa.PI
open Go Go.Q
set_option maxRecDepth 100000
set_option maxHeartbeats 4000000
set_option linter.unusedSimpArgs false

theorem call_78 (n lo hi : Int) : callOf pr 78 [I n, I lo, I hi] [] = some (B (decide (lo ≤ n ∧ n ≤ hi)), []) := by
  rw [call_eq pr 78 _ _ Try.f78 fn_78 _ rfl _ ann_78 rfl]
  simp -implicitDefEqProofs only [go_sem, Nat.reduceAdd, Nat.reduceSub, Nat.reduceMul, Nat.reduceMod, Nat.reduceLT, Nat.reduceLeDiff, Nat.reduceEqDiff, Nat.reduceBEq, Nat.reduceDiv, Int.reduceLT, Int.reduceLE, Int.reduceToNat, Int.reduceNeg, Int.reduceEq, ↓reduceIte, reduceCtorEq, ↓reduceDIte, Bool.false_eq_true, Bool.true_eq_false, ne_eq, not_true_eq_false, not_false_eq_true, Bool.true_or, Bool.false_or, Bool.or_true, Bool.or_false, Bool.true_and, Bool.false_and, Bool.and_true, Bool.and_false, Bool.not_true, Bool.not_false, Bool.not_eq_false', Bool.not_eq_true', and_true, true_and, and_false, false_and, or_true, true_or, or_false, false_or, and_self, or_self, decide_eq_true_eq, decide_true, decide_false, decide_eq_false_iff_not, ite_not, if_true, if_false, eq_self]
  by_cases h : lo ≤ n
  · simp [h]
  · simp [h]

/-- An element of a list that rises. -/
def riseAt (xs : List Int) (lo hi : Int) (i : Nat) : Prop := (lo ≤ xs.getD i 0 ∧ xs.getD i 0 ≤ hi) ∧ (0 < i → xs.getD (i - 1) 0 < xs.getD i 0)

instance (xs : List Int) (lo hi : Int) (i : Nat) : Decidable (riseAt xs lo hi i) := inferInstanceAs (Decidable ((lo ≤ xs.getD i 0 ∧ xs.getD i 0 ≤ hi) ∧ (0 < i → xs.getD (i - 1) 0 < xs.getD i 0)))

theorem loop_62 (xs : List Int) (lo hi : Int) (hb : xs.length < 1000000000000000000) : ∀ (n k : Nat), k + n = xs.length →
    ((∀ i, k ≤ i → i < xs.length → riseAt xs lo hi i) → loopOf pr 62 0 ⟨[(0, L xs), (1, I lo), (2, I hi), (7, I k)], []⟩ = some (.exit 0, ⟨[(0, L xs), (1, I lo), (2, I hi), (7, I xs.length)], []⟩)) ∧
    ((¬ ∀ i, k ≤ i → i < xs.length → riseAt xs lo hi i) → loopOf pr 62 0 ⟨[(0, L xs), (1, I lo), (2, I hi), (7, I k)], []⟩ = some (.ret, ⟨[(6, B false)], []⟩))
  | 0, k, h => by
    have : k = xs.length := by omega
    subst this
    refine ⟨fun _ => ?_, fun h => absurd (fun i h1 h2 => absurd h2 (by omega)) h⟩
    rw [loop_eq pr 62 0 _ Try.f62 fn_62 _ rfl _ ann_62 _ rfl]
    simp -implicitDefEqProofs only [Int.lt_irrefl, go_sem, Nat.reduceAdd, Nat.reduceSub, Nat.reduceMul, Nat.reduceMod, Nat.reduceLT, Nat.reduceLeDiff, Nat.reduceEqDiff, Nat.reduceBEq, Nat.reduceDiv, Int.reduceLT, Int.reduceLE, Int.reduceToNat, Int.reduceNeg, Int.reduceEq, ↓reduceIte, reduceCtorEq, ↓reduceDIte, Bool.false_eq_true, Bool.true_eq_false, ne_eq, not_true_eq_false, not_false_eq_true, Bool.true_or, Bool.false_or, Bool.or_true, Bool.or_false, Bool.true_and, Bool.false_and, Bool.and_true, Bool.and_false, Bool.not_true, Bool.not_false, Bool.not_eq_false', Bool.not_eq_true', and_true, true_and, and_false, false_and, or_true, true_or, or_false, false_or, and_self, or_self, decide_eq_true_eq, decide_true, decide_false, decide_eq_false_iff_not, ite_not, if_true, if_false, eq_self]
  | n + 1, k, h => by
    have hlt : k < xs.length := by omega
    have ih := loop_62 xs lo hi hb n (k + 1) (by omega)
    have hiff : (∀ i, k ≤ i → i < xs.length → riseAt xs lo hi i) ↔ riseAt xs lo hi k ∧ ∀ i, k + 1 ≤ i → i < xs.length → riseAt xs lo hi i := by
      constructor
      · exact fun h => ⟨h k (Nat.le_refl _) hlt, fun i h1 h2 => h i (by omega) h2⟩
      · rintro ⟨h1, h2⟩ i h3 h4
        by_cases e : i = k
        · subst e; exact h1
        · exact h2 i (by omega) h4
    rw [hiff, loop_eq pr 62 0 _ Try.f62 fn_62 _ rfl _ ann_62 _ rfl]
    by_cases hr : lo ≤ xs.getD k 0 ∧ xs.getD k 0 ≤ hi
    · have hr' : (lo ≤ xs.getD k 0 ∧ xs.getD k 0 ≤ hi) = True := by simp only [hr, and_self]
      by_cases hk : k = 0
      · subst hk
        have hk' : ((0 : Int) < ((0 : Nat) : Int)) = False := by simp
        simp -implicitDefEqProofs only [lt_cast hlt, zero_le_cast, Int.toNat_natCast, wrap_succ hlt hb, call_78, hr', hk', go_sem, Nat.reduceAdd, Nat.reduceSub, Nat.reduceMul, Nat.reduceMod, Nat.reduceLT, Nat.reduceLeDiff, Nat.reduceEqDiff, Nat.reduceBEq, Nat.reduceDiv, Int.reduceLT, Int.reduceLE, Int.reduceToNat, Int.reduceNeg, Int.reduceEq, ↓reduceIte, reduceCtorEq, ↓reduceDIte, Bool.false_eq_true, Bool.true_eq_false, ne_eq, not_true_eq_false, not_false_eq_true, Bool.true_or, Bool.false_or, Bool.or_true, Bool.or_false, Bool.true_and, Bool.false_and, Bool.and_true, Bool.and_false, Bool.not_true, Bool.not_false, Bool.not_eq_false', Bool.not_eq_true', and_true, true_and, and_false, false_and, or_true, true_or, or_false, false_or, and_self, or_self, decide_eq_true_eq, decide_true, decide_false, decide_eq_false_iff_not, ite_not, if_true, if_false, eq_self]
        have : riseAt xs lo hi 0 := ⟨hr, fun h => absurd h (by omega)⟩
        simp only [this, true_and]
        exact ih
      · have hk' : ((0 : Int) < (k : Int)) = True := by simp; omega
        have hw : IntKind.i64.wrap ((k : Int) - 1) = ((k - 1 : Nat) : Int) := by rw [wrap_i] <;> omega
        have hlt' : k - 1 < xs.length := by omega
        by_cases hq : xs.getD k 0 ≤ xs.getD (k - 1) 0
        · have hq' : (xs.getD k 0 ≤ xs.getD (k - 1) 0) = True := by simp only [hq]
          simp -implicitDefEqProofs only [lt_cast hlt, lt_cast hlt', zero_le_cast, Int.toNat_natCast, wrap_succ hlt hb, call_78, hr', hk', hw, hq', go_sem, Nat.reduceAdd, Nat.reduceSub, Nat.reduceMul, Nat.reduceMod, Nat.reduceLT, Nat.reduceLeDiff, Nat.reduceEqDiff, Nat.reduceBEq, Nat.reduceDiv, Int.reduceLT, Int.reduceLE, Int.reduceToNat, Int.reduceNeg, Int.reduceEq, ↓reduceIte, reduceCtorEq, ↓reduceDIte, Bool.false_eq_true, Bool.true_eq_false, ne_eq, not_true_eq_false, not_false_eq_true, Bool.true_or, Bool.false_or, Bool.or_true, Bool.or_false, Bool.true_and, Bool.false_and, Bool.and_true, Bool.and_false, Bool.not_true, Bool.not_false, Bool.not_eq_false', Bool.not_eq_true', and_true, true_and, and_false, false_and, or_true, true_or, or_false, false_or, and_self, or_self, decide_eq_true_eq, decide_true, decide_false, decide_eq_false_iff_not, ite_not, if_true, if_false, eq_self]
          have : ¬ riseAt xs lo hi k := fun h => by have := h.2 (by omega); omega
          simp only [this, false_and, not_false_eq_true, false_implies, true_implies, true_and]
        · have hq' : (xs.getD k 0 ≤ xs.getD (k - 1) 0) = False := by simp only [hq]
          simp -implicitDefEqProofs only [lt_cast hlt, lt_cast hlt', zero_le_cast, Int.toNat_natCast, wrap_succ hlt hb, call_78, hr', hk', hw, hq', go_sem, Nat.reduceAdd, Nat.reduceSub, Nat.reduceMul, Nat.reduceMod, Nat.reduceLT, Nat.reduceLeDiff, Nat.reduceEqDiff, Nat.reduceBEq, Nat.reduceDiv, Int.reduceLT, Int.reduceLE, Int.reduceToNat, Int.reduceNeg, Int.reduceEq, ↓reduceIte, reduceCtorEq, ↓reduceDIte, Bool.false_eq_true, Bool.true_eq_false, ne_eq, not_true_eq_false, not_false_eq_true, Bool.true_or, Bool.false_or, Bool.or_true, Bool.or_false, Bool.true_and, Bool.false_and, Bool.and_true, Bool.and_false, Bool.not_true, Bool.not_false, Bool.not_eq_false', Bool.not_eq_true', and_true, true_and, and_false, false_and, or_true, true_or, or_false, false_or, and_self, or_self, decide_eq_true_eq, decide_true, decide_false, decide_eq_false_iff_not, ite_not, if_true, if_false, eq_self]
          have : riseAt xs lo hi k := ⟨hr, fun _ => by omega⟩
          simp only [this, true_and]
          exact ih
    · have hr' : (lo ≤ xs.getD k 0 ∧ xs.getD k 0 ≤ hi) = False := by simp only [hr]
      simp -implicitDefEqProofs only [lt_cast hlt, zero_le_cast, Int.toNat_natCast, wrap_succ hlt hb, call_78, hr', go_sem, Nat.reduceAdd, Nat.reduceSub, Nat.reduceMul, Nat.reduceMod, Nat.reduceLT, Nat.reduceLeDiff, Nat.reduceEqDiff, Nat.reduceBEq, Nat.reduceDiv, Int.reduceLT, Int.reduceLE, Int.reduceToNat, Int.reduceNeg, Int.reduceEq, ↓reduceIte, reduceCtorEq, ↓reduceDIte, Bool.false_eq_true, Bool.true_eq_false, ne_eq, not_true_eq_false, not_false_eq_true, Bool.true_or, Bool.false_or, Bool.or_true, Bool.or_false, Bool.true_and, Bool.false_and, Bool.and_true, Bool.and_false, Bool.not_true, Bool.not_false, Bool.not_eq_false', Bool.not_eq_true', and_true, true_and, and_false, false_and, or_true, true_or, or_false, false_or, and_self, or_self, decide_eq_true_eq, decide_true, decide_false, decide_eq_false_iff_not, ite_not, if_true, if_false, eq_self]
      have : ¬ riseAt xs lo hi k := fun h => hr h.1
      simp only [this, false_and, not_false_eq_true, false_implies, true_implies, true_and]
end Go.Proofs.Ytidodagkfbplaaa.PI
