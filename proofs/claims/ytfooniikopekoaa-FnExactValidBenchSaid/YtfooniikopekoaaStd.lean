/- The functions of the rows: sizes, copies, comparisons, marks: printed by a program of the session. -/
import Derived.Test.YtfooniikopekoaaGQStd
import Derived.Test.YtfooniikopekoaaPIProg
namespace Go.Proofs.Ytfooniikopekoaa.PI
open Go Go.Q
set_option maxRecDepth 100000
set_option maxHeartbeats 4000000
set_option linter.unusedSimpArgs false
set_option linter.unusedVariables false

theorem sz_Int64S (a : List (Ty.Den (.int .i64))) (ha : Bd wide (.slice (.int .i64)) a) (l : Int) (h0 : 0 ≤ l) (h1 : l ≤ 1048576) : ∃ r, callOf pr 47 [.d (.slice (.int .i64)) a, I l] [] = some (I r, []) ∧ r ≤ l ∧ (0 ≤ r → Bd small (.slice (.int .i64)) a) := by
  have hl : a.length ≤ wide := ha.1
  simp only [wide] at hl
  have hw : IntKind.i64.wrap (l - (a.length : Int)) = l - a.length := by rw [wrap_i] <;> omega
  by_cases h : l - (a.length : Int) < 0
  · refine ⟨-1, ?_, by omega, fun h => absurd h (by omega)⟩
    rw [call_eq pr 47 _ _ Try.f47 fn_47 _ rfl _ ann_47 rfl]
    simp -implicitDefEqProofs only [hw, tr h, go_sem, Nat.reduceAdd, Nat.reduceSub, Nat.reduceMul, Nat.reduceMod, Nat.reduceLT, Nat.reduceLeDiff, Nat.reduceEqDiff, Nat.reduceBEq, Nat.reduceDiv, Int.reduceLT, Int.reduceLE, Int.reduceToNat, Int.reduceNeg, Int.reduceEq, ↓reduceIte, reduceCtorEq, ↓reduceDIte, Bool.false_eq_true, Bool.true_eq_false, ne_eq, not_true_eq_false, not_false_eq_true, Bool.true_or, Bool.false_or, Bool.or_true, Bool.or_false, Bool.true_and, Bool.false_and, Bool.and_true, Bool.and_false, Bool.not_true, Bool.not_false, Bool.not_eq_false', Bool.not_eq_true', and_true, true_and, and_false, false_and, or_true, true_or, or_false, false_or, and_self, or_self, decide_eq_true_eq, decide_true, decide_false, decide_eq_false_iff_not, ite_not, if_true, if_false, eq_self]
  · refine ⟨l - a.length, ?_, by omega, fun _ => ⟨?_, fun y _ => Bd.scalar (.int .i64) rfl y⟩⟩
    · rw [call_eq pr 47 _ _ Try.f47 fn_47 _ rfl _ ann_47 rfl]
      simp -implicitDefEqProofs only [hw, fa h, go_sem, Nat.reduceAdd, Nat.reduceSub, Nat.reduceMul, Nat.reduceMod, Nat.reduceLT, Nat.reduceLeDiff, Nat.reduceEqDiff, Nat.reduceBEq, Nat.reduceDiv, Int.reduceLT, Int.reduceLE, Int.reduceToNat, Int.reduceNeg, Int.reduceEq, ↓reduceIte, reduceCtorEq, ↓reduceDIte, Bool.false_eq_true, Bool.true_eq_false, ne_eq, not_true_eq_false, not_false_eq_true, Bool.true_or, Bool.false_or, Bool.or_true, Bool.or_false, Bool.true_and, Bool.false_and, Bool.and_true, Bool.and_false, Bool.not_true, Bool.not_false, Bool.not_eq_false', Bool.not_eq_true', and_true, true_and, and_false, false_and, or_true, true_or, or_false, false_or, and_self, or_self, decide_eq_true_eq, decide_true, decide_false, decide_eq_false_iff_not, ite_not, if_true, if_false, eq_self]
    · show a.length ≤ small
      simp only [small]; omega

theorem szl_Int64SS (xs : List (Ty.Den (.slice (.int .i64)))) : ∀ (done : List (Ty.Den (.slice (.int .i64)))) (l : Int), 0 ≤ l → l ≤ 1048576 → done.length + xs.length ≤ wide → (∀ x ∈ xs, Bd wide (.slice (.int .i64)) x) →
    (∃ r, 0 ≤ r ∧ r ≤ l ∧ (∀ x ∈ xs, Bd small (.slice (.int .i64)) x) ∧ loopOf pr 46 0 ⟨[(0, .d (.slice (.slice (.int .i64))) (done ++ xs)), (1, I l), (5, I done.length)], []⟩ = some (.exit 0, ⟨[(0, .d (.slice (.slice (.int .i64))) (done ++ xs)), (1, I r), (5, I ((done.length + xs.length : Nat) : Int))], []⟩)) ∨ loopOf pr 46 0 ⟨[(0, .d (.slice (.slice (.int .i64))) (done ++ xs)), (1, I l), (5, I done.length)], []⟩ = some (.ret, ⟨[(4, I (-1))], []⟩) := by
  induction xs with
  | nil =>
    intro done l h0 h1 hb hx
    refine .inl ⟨l, h0, Int.le_refl _, by simp, ?_⟩
    rw [loop_eq pr 46 0 _ Try.f46 fn_46 _ rfl _ ann_46 _ rfl]
    simp -implicitDefEqProofs only [Int.lt_irrefl, List.append_nil, Nat.add_zero, go_sem, Nat.reduceAdd, Nat.reduceSub, Nat.reduceMul, Nat.reduceMod, Nat.reduceLT, Nat.reduceLeDiff, Nat.reduceEqDiff, Nat.reduceBEq, Nat.reduceDiv, Int.reduceLT, Int.reduceLE, Int.reduceToNat, Int.reduceNeg, Int.reduceEq, ↓reduceIte, reduceCtorEq, ↓reduceDIte, Bool.false_eq_true, Bool.true_eq_false, ne_eq, not_true_eq_false, not_false_eq_true, Bool.true_or, Bool.false_or, Bool.or_true, Bool.or_false, Bool.true_and, Bool.false_and, Bool.and_true, Bool.and_false, Bool.not_true, Bool.not_false, Bool.not_eq_false', Bool.not_eq_true', and_true, true_and, and_false, false_and, or_true, true_or, or_false, false_or, and_self, or_self, decide_eq_true_eq, decide_true, decide_false, decide_eq_false_iff_not, ite_not, if_true, if_false, eq_self]
  | cons x xs ih =>
    intro done l h0 h1 hb hx
    simp only [List.length_cons, wide] at hb
    obtain ⟨r, hr1, hr2, hr3⟩ := sz_Int64S x (hx x (by simp)) l h0 h1
    rw [loop_eq pr 46 0 _ Try.f46 fn_46 _ rfl _ ann_46 _ rfl]
    by_cases h : r < 0
    · right
      simp -implicitDefEqProofs only [getD_app, set_app, lt_app, ltn_app, zero_le_cast, Int.toNat_natCast, hr1, tr h, go_sem, Nat.reduceAdd, Nat.reduceSub, Nat.reduceMul, Nat.reduceMod, Nat.reduceLT, Nat.reduceLeDiff, Nat.reduceEqDiff, Nat.reduceBEq, Nat.reduceDiv, Int.reduceLT, Int.reduceLE, Int.reduceToNat, Int.reduceNeg, Int.reduceEq, ↓reduceIte, reduceCtorEq, ↓reduceDIte, Bool.false_eq_true, Bool.true_eq_false, ne_eq, not_true_eq_false, not_false_eq_true, Bool.true_or, Bool.false_or, Bool.or_true, Bool.or_false, Bool.true_and, Bool.false_and, Bool.and_true, Bool.and_false, Bool.not_true, Bool.not_false, Bool.not_eq_false', Bool.not_eq_true', and_true, true_and, and_false, false_and, or_true, true_or, or_false, false_or, and_self, or_self, decide_eq_true_eq, decide_true, decide_false, decide_eq_false_iff_not, ite_not, if_true, if_false, eq_self]
    · have hn : IntKind.i64.wrap ((done.length : Int) + 1) = ((done.length + 1 : Nat) : Int) := by rw [wrap_i] <;> omega
      have ih := ih (done ++ [x]) r (by omega) (by omega) (by simp only [List.length_append, List.length_cons, List.length_nil, wide]; omega) (fun y hy => hx y (by simp [hy]))
      have e1 : (done ++ [x]).length = done.length + 1 := by simp
      have e2 : done.length + 1 + xs.length = done.length + (x :: xs).length := by simp; omega
      rw [app_one, e1, e2] at ih
      rcases ih with ⟨q, q1, q2, q3, q4⟩ | q
      · refine .inl ⟨q, q1, by omega, ?_, ?_⟩
        · intro y hy
          rw [List.mem_cons] at hy
          rcases hy with rfl | hy
          · exact hr3 (by omega)
          · exact q3 y hy
        · simp -implicitDefEqProofs only [getD_app, set_app, lt_app, ltn_app, zero_le_cast, Int.toNat_natCast, hr1, fa h, hn, go_sem, Nat.reduceAdd, Nat.reduceSub, Nat.reduceMul, Nat.reduceMod, Nat.reduceLT, Nat.reduceLeDiff, Nat.reduceEqDiff, Nat.reduceBEq, Nat.reduceDiv, Int.reduceLT, Int.reduceLE, Int.reduceToNat, Int.reduceNeg, Int.reduceEq, ↓reduceIte, reduceCtorEq, ↓reduceDIte, Bool.false_eq_true, Bool.true_eq_false, ne_eq, not_true_eq_false, not_false_eq_true, Bool.true_or, Bool.false_or, Bool.or_true, Bool.or_false, Bool.true_and, Bool.false_and, Bool.and_true, Bool.and_false, Bool.not_true, Bool.not_false, Bool.not_eq_false', Bool.not_eq_true', and_true, true_and, and_false, false_and, or_true, true_or, or_false, false_or, and_self, or_self, decide_eq_true_eq, decide_true, decide_false, decide_eq_false_iff_not, ite_not, if_true, if_false, eq_self]
          exact q4
      · right
        simp -implicitDefEqProofs only [getD_app, set_app, lt_app, ltn_app, zero_le_cast, Int.toNat_natCast, hr1, fa h, hn, go_sem, Nat.reduceAdd, Nat.reduceSub, Nat.reduceMul, Nat.reduceMod, Nat.reduceLT, Nat.reduceLeDiff, Nat.reduceEqDiff, Nat.reduceBEq, Nat.reduceDiv, Int.reduceLT, Int.reduceLE, Int.reduceToNat, Int.reduceNeg, Int.reduceEq, ↓reduceIte, reduceCtorEq, ↓reduceDIte, Bool.false_eq_true, Bool.true_eq_false, ne_eq, not_true_eq_false, not_false_eq_true, Bool.true_or, Bool.false_or, Bool.or_true, Bool.or_false, Bool.true_and, Bool.false_and, Bool.and_true, Bool.and_false, Bool.not_true, Bool.not_false, Bool.not_eq_false', Bool.not_eq_true', and_true, true_and, and_false, false_and, or_true, true_or, or_false, false_or, and_self, or_self, decide_eq_true_eq, decide_true, decide_false, decide_eq_false_iff_not, ite_not, if_true, if_false, eq_self]
        exact q
theorem sz_Int64SS (a : List (Ty.Den (.slice (.int .i64)))) (ha : Bd wide (.slice (.slice (.int .i64))) a) (l : Int) (h0 : 0 ≤ l) (h1 : l ≤ 1048576) : ∃ r, callOf pr 46 [.d (.slice (.slice (.int .i64))) a, I l] [] = some (I r, []) ∧ r ≤ l ∧ (0 ≤ r → Bd small (.slice (.slice (.int .i64))) a) := by
  have hl : a.length ≤ wide := ha.1
  simp only [wide] at hl
  have hw : IntKind.i64.wrap (l - (a.length : Int)) = l - a.length := by rw [wrap_i] <;> omega
  by_cases h : l - (a.length : Int) < 0
  · refine ⟨-1, ?_, by omega, fun h => absurd h (by omega)⟩
    rw [call_eq pr 46 _ _ Try.f46 fn_46 _ rfl _ ann_46 rfl]
    simp -implicitDefEqProofs only [hw, tr h, go_sem, Nat.reduceAdd, Nat.reduceSub, Nat.reduceMul, Nat.reduceMod, Nat.reduceLT, Nat.reduceLeDiff, Nat.reduceEqDiff, Nat.reduceBEq, Nat.reduceDiv, Int.reduceLT, Int.reduceLE, Int.reduceToNat, Int.reduceNeg, Int.reduceEq, ↓reduceIte, reduceCtorEq, ↓reduceDIte, Bool.false_eq_true, Bool.true_eq_false, ne_eq, not_true_eq_false, not_false_eq_true, Bool.true_or, Bool.false_or, Bool.or_true, Bool.or_false, Bool.true_and, Bool.false_and, Bool.and_true, Bool.and_false, Bool.not_true, Bool.not_false, Bool.not_eq_false', Bool.not_eq_true', and_true, true_and, and_false, false_and, or_true, true_or, or_false, false_or, and_self, or_self, decide_eq_true_eq, decide_true, decide_false, decide_eq_false_iff_not, ite_not, if_true, if_false, eq_self]
  · have hs := szl_Int64SS a [] (l - a.length) (by omega) (by omega) (by simp only [List.length_nil, wide]; omega) ha.2
    simp only [List.nil_append, List.length_nil] at hs
    rcases hs with ⟨r, r1, r2, r3, r4⟩ | r
    · have r4 : loopOf pr 46 0 ⟨[(0, .d (.slice (.slice (.int .i64))) a), (1, I (l - a.length)), (5, I 0)], []⟩ = _ := r4
      refine ⟨r, ?_, by omega, fun _ => ⟨?_, r3⟩⟩
      · rw [call_eq pr 46 _ _ Try.f46 fn_46 _ rfl _ ann_46 rfl]
        simp -implicitDefEqProofs only [hw, fa h, r4, go_sem, Nat.reduceAdd, Nat.reduceSub, Nat.reduceMul, Nat.reduceMod, Nat.reduceLT, Nat.reduceLeDiff, Nat.reduceEqDiff, Nat.reduceBEq, Nat.reduceDiv, Int.reduceLT, Int.reduceLE, Int.reduceToNat, Int.reduceNeg, Int.reduceEq, ↓reduceIte, reduceCtorEq, ↓reduceDIte, Bool.false_eq_true, Bool.true_eq_false, ne_eq, not_true_eq_false, not_false_eq_true, Bool.true_or, Bool.false_or, Bool.or_true, Bool.or_false, Bool.true_and, Bool.false_and, Bool.and_true, Bool.and_false, Bool.not_true, Bool.not_false, Bool.not_eq_false', Bool.not_eq_true', and_true, true_and, and_false, false_and, or_true, true_or, or_false, false_or, and_self, or_self, decide_eq_true_eq, decide_true, decide_false, decide_eq_false_iff_not, ite_not, if_true, if_false, eq_self]
      · show a.length ≤ small
        simp only [small]; omega
    · have r : loopOf pr 46 0 ⟨[(0, .d (.slice (.slice (.int .i64))) a), (1, I (l - a.length)), (5, I 0)], []⟩ = _ := r
      refine ⟨-1, ?_, by omega, fun h => absurd h (by omega)⟩
      rw [call_eq pr 46 _ _ Try.f46 fn_46 _ rfl _ ann_46 rfl]
      simp -implicitDefEqProofs only [hw, fa h, r, go_sem, Nat.reduceAdd, Nat.reduceSub, Nat.reduceMul, Nat.reduceMod, Nat.reduceLT, Nat.reduceLeDiff, Nat.reduceEqDiff, Nat.reduceBEq, Nat.reduceDiv, Int.reduceLT, Int.reduceLE, Int.reduceToNat, Int.reduceNeg, Int.reduceEq, ↓reduceIte, reduceCtorEq, ↓reduceDIte, Bool.false_eq_true, Bool.true_eq_false, ne_eq, not_true_eq_false, not_false_eq_true, Bool.true_or, Bool.false_or, Bool.or_true, Bool.or_false, Bool.true_and, Bool.false_and, Bool.and_true, Bool.and_false, Bool.not_true, Bool.not_false, Bool.not_eq_false', Bool.not_eq_true', and_true, true_and, and_false, false_and, or_true, true_or, or_false, false_or, and_self, or_self, decide_eq_true_eq, decide_true, decide_false, decide_eq_false_iff_not, ite_not, if_true, if_false, eq_self]

theorem sz_AccessS (a : List (Ty.Den (.agg (.cons (.int .i64) (.cons (.int .i64) .nil))))) (ha : Bd wide (.slice (.agg (.cons (.int .i64) (.cons (.int .i64) .nil)))) a) (l : Int) (h0 : 0 ≤ l) (h1 : l ≤ 1048576) : ∃ r, callOf pr 40 [.d (.slice (.agg (.cons (.int .i64) (.cons (.int .i64) .nil)))) a, I l] [] = some (I r, []) ∧ r ≤ l ∧ (0 ≤ r → Bd small (.slice (.agg (.cons (.int .i64) (.cons (.int .i64) .nil)))) a) := by
  have hl : a.length ≤ wide := ha.1
  simp only [wide] at hl
  have hw : IntKind.i64.wrap (l - (a.length : Int)) = l - a.length := by rw [wrap_i] <;> omega
  by_cases h : l - (a.length : Int) < 0
  · refine ⟨-1, ?_, by omega, fun h => absurd h (by omega)⟩
    rw [call_eq pr 40 _ _ Try.f40 fn_40 _ rfl _ ann_40 rfl]
    simp -implicitDefEqProofs only [hw, tr h, go_sem, Nat.reduceAdd, Nat.reduceSub, Nat.reduceMul, Nat.reduceMod, Nat.reduceLT, Nat.reduceLeDiff, Nat.reduceEqDiff, Nat.reduceBEq, Nat.reduceDiv, Int.reduceLT, Int.reduceLE, Int.reduceToNat, Int.reduceNeg, Int.reduceEq, ↓reduceIte, reduceCtorEq, ↓reduceDIte, Bool.false_eq_true, Bool.true_eq_false, ne_eq, not_true_eq_false, not_false_eq_true, Bool.true_or, Bool.false_or, Bool.or_true, Bool.or_false, Bool.true_and, Bool.false_and, Bool.and_true, Bool.and_false, Bool.not_true, Bool.not_false, Bool.not_eq_false', Bool.not_eq_true', and_true, true_and, and_false, false_and, or_true, true_or, or_false, false_or, and_self, or_self, decide_eq_true_eq, decide_true, decide_false, decide_eq_false_iff_not, ite_not, if_true, if_false, eq_self]
  · refine ⟨l - a.length, ?_, by omega, fun _ => ⟨?_, fun y _ => Bd.scalar (.agg (.cons (.int .i64) (.cons (.int .i64) .nil))) rfl y⟩⟩
    · rw [call_eq pr 40 _ _ Try.f40 fn_40 _ rfl _ ann_40 rfl]
      simp -implicitDefEqProofs only [hw, fa h, go_sem, Nat.reduceAdd, Nat.reduceSub, Nat.reduceMul, Nat.reduceMod, Nat.reduceLT, Nat.reduceLeDiff, Nat.reduceEqDiff, Nat.reduceBEq, Nat.reduceDiv, Int.reduceLT, Int.reduceLE, Int.reduceToNat, Int.reduceNeg, Int.reduceEq, ↓reduceIte, reduceCtorEq, ↓reduceDIte, Bool.false_eq_true, Bool.true_eq_false, ne_eq, not_true_eq_false, not_false_eq_true, Bool.true_or, Bool.false_or, Bool.or_true, Bool.or_false, Bool.true_and, Bool.false_and, Bool.and_true, Bool.and_false, Bool.not_true, Bool.not_false, Bool.not_eq_false', Bool.not_eq_true', and_true, true_and, and_false, false_and, or_true, true_or, or_false, false_or, and_self, or_self, decide_eq_true_eq, decide_true, decide_false, decide_eq_false_iff_not, ite_not, if_true, if_false, eq_self]
    · show a.length ≤ small
      simp only [small]; omega

theorem sz_Policy (x : Ty.Den (.agg (.cons (.slice (.slice (.int .i64))) (.cons (.slice (.int .i64)) .nil)))) (ha : Bd wide (.agg (.cons (.slice (.slice (.int .i64))) (.cons (.slice (.int .i64)) .nil))) x) (l : Int) (h0 : 0 ≤ l) (h1 : l ≤ 1048576) : ∃ r, callOf pr 14 [.agg [.d (.slice (.slice (.int .i64))) x.1, .d (.slice (.int .i64)) x.2.1], I l] [] = some (I r, []) ∧ r ≤ l ∧ (0 ≤ r → Bd small (.agg (.cons (.slice (.slice (.int .i64))) (.cons (.slice (.int .i64)) .nil))) x) := by
  obtain ⟨r0, r0a, r0b, r0c⟩ := sz_Int64SS x.1 ha.1 l (by omega) (by omega)
  by_cases g0 : r0 < 0
  · refine ⟨-1, ?_, by omega, fun h => absurd h (by omega)⟩
    rw [call_eq pr 14 _ _ Try.f14 fn_14 _ rfl _ ann_14 rfl]
    simp -implicitDefEqProofs only [r0a, tr g0, go_sem, Nat.reduceAdd, Nat.reduceSub, Nat.reduceMul, Nat.reduceMod, Nat.reduceLT, Nat.reduceLeDiff, Nat.reduceEqDiff, Nat.reduceBEq, Nat.reduceDiv, Int.reduceLT, Int.reduceLE, Int.reduceToNat, Int.reduceNeg, Int.reduceEq, ↓reduceIte, reduceCtorEq, ↓reduceDIte, Bool.false_eq_true, Bool.true_eq_false, ne_eq, not_true_eq_false, not_false_eq_true, Bool.true_or, Bool.false_or, Bool.or_true, Bool.or_false, Bool.true_and, Bool.false_and, Bool.and_true, Bool.and_false, Bool.not_true, Bool.not_false, Bool.not_eq_false', Bool.not_eq_true', and_true, true_and, and_false, false_and, or_true, true_or, or_false, false_or, and_self, or_self, decide_eq_true_eq, decide_true, decide_false, decide_eq_false_iff_not, ite_not, if_true, if_false, eq_self]
  · skip
    obtain ⟨r1, r1a, r1b, r1c⟩ := sz_Int64S x.2.1 ha.2.1 r0 (by omega) (by omega)
    by_cases g1 : r1 < 0
    · refine ⟨-1, ?_, by omega, fun h => absurd h (by omega)⟩
      rw [call_eq pr 14 _ _ Try.f14 fn_14 _ rfl _ ann_14 rfl]
      simp -implicitDefEqProofs only [r0a, fa g0, r1a, tr g1, go_sem, Nat.reduceAdd, Nat.reduceSub, Nat.reduceMul, Nat.reduceMod, Nat.reduceLT, Nat.reduceLeDiff, Nat.reduceEqDiff, Nat.reduceBEq, Nat.reduceDiv, Int.reduceLT, Int.reduceLE, Int.reduceToNat, Int.reduceNeg, Int.reduceEq, ↓reduceIte, reduceCtorEq, ↓reduceDIte, Bool.false_eq_true, Bool.true_eq_false, ne_eq, not_true_eq_false, not_false_eq_true, Bool.true_or, Bool.false_or, Bool.or_true, Bool.or_false, Bool.true_and, Bool.false_and, Bool.and_true, Bool.and_false, Bool.not_true, Bool.not_false, Bool.not_eq_false', Bool.not_eq_true', and_true, true_and, and_false, false_and, or_true, true_or, or_false, false_or, and_self, or_self, decide_eq_true_eq, decide_true, decide_false, decide_eq_false_iff_not, ite_not, if_true, if_false, eq_self]
    · refine ⟨r1, ?_, by omega, fun _ => ⟨r0c (by omega), r1c (by omega), trivial⟩⟩
      rw [call_eq pr 14 _ _ Try.f14 fn_14 _ rfl _ ann_14 rfl]
      simp -implicitDefEqProofs only [r0a, fa g0, r1a, fa g1, go_sem, Nat.reduceAdd, Nat.reduceSub, Nat.reduceMul, Nat.reduceMod, Nat.reduceLT, Nat.reduceLeDiff, Nat.reduceEqDiff, Nat.reduceBEq, Nat.reduceDiv, Int.reduceLT, Int.reduceLE, Int.reduceToNat, Int.reduceNeg, Int.reduceEq, ↓reduceIte, reduceCtorEq, ↓reduceDIte, Bool.false_eq_true, Bool.true_eq_false, ne_eq, not_true_eq_false, not_false_eq_true, Bool.true_or, Bool.false_or, Bool.or_true, Bool.or_false, Bool.true_and, Bool.false_and, Bool.and_true, Bool.and_false, Bool.not_true, Bool.not_false, Bool.not_eq_false', Bool.not_eq_true', and_true, true_and, and_false, false_and, or_true, true_or, or_false, false_or, and_self, or_self, decide_eq_true_eq, decide_true, decide_false, decide_eq_false_iff_not, ite_not, if_true, if_false, eq_self]

theorem sz_Bench (x : Ty.Den (.agg (.cons (.slice (.agg (.cons (.int .i64) (.cons (.int .i64) .nil)))) (.cons (.agg (.cons (.slice (.slice (.int .i64))) (.cons (.slice (.int .i64)) .nil))) .nil)))) (ha : Bd wide (.agg (.cons (.slice (.agg (.cons (.int .i64) (.cons (.int .i64) .nil)))) (.cons (.agg (.cons (.slice (.slice (.int .i64))) (.cons (.slice (.int .i64)) .nil))) .nil))) x) (l : Int) (h0 : 0 ≤ l) (h1 : l ≤ 1048576) : ∃ r, callOf pr 9 [.agg [.d (.slice (.agg (.cons (.int .i64) (.cons (.int .i64) .nil)))) x.1, .d (.slice (.slice (.int .i64))) x.2.1.1, .d (.slice (.int .i64)) x.2.1.2.1], I l] [] = some (I r, []) ∧ r ≤ l ∧ (0 ≤ r → Bd small (.agg (.cons (.slice (.agg (.cons (.int .i64) (.cons (.int .i64) .nil)))) (.cons (.agg (.cons (.slice (.slice (.int .i64))) (.cons (.slice (.int .i64)) .nil))) .nil))) x) := by
  obtain ⟨r0, r0a, r0b, r0c⟩ := sz_AccessS x.1 ha.1 l (by omega) (by omega)
  by_cases g0 : r0 < 0
  · refine ⟨-1, ?_, by omega, fun h => absurd h (by omega)⟩
    rw [call_eq pr 9 _ _ Try.f9 fn_9 _ rfl _ ann_9 rfl]
    simp -implicitDefEqProofs only [r0a, tr g0, go_sem, Nat.reduceAdd, Nat.reduceSub, Nat.reduceMul, Nat.reduceMod, Nat.reduceLT, Nat.reduceLeDiff, Nat.reduceEqDiff, Nat.reduceBEq, Nat.reduceDiv, Int.reduceLT, Int.reduceLE, Int.reduceToNat, Int.reduceNeg, Int.reduceEq, ↓reduceIte, reduceCtorEq, ↓reduceDIte, Bool.false_eq_true, Bool.true_eq_false, ne_eq, not_true_eq_false, not_false_eq_true, Bool.true_or, Bool.false_or, Bool.or_true, Bool.or_false, Bool.true_and, Bool.false_and, Bool.and_true, Bool.and_false, Bool.not_true, Bool.not_false, Bool.not_eq_false', Bool.not_eq_true', and_true, true_and, and_false, false_and, or_true, true_or, or_false, false_or, and_self, or_self, decide_eq_true_eq, decide_true, decide_false, decide_eq_false_iff_not, ite_not, if_true, if_false, eq_self]
  · skip
    obtain ⟨r1, r1a, r1b, r1c⟩ := sz_Policy x.2.1 ha.2.1 r0 (by omega) (by omega)
    by_cases g1 : r1 < 0
    · refine ⟨-1, ?_, by omega, fun h => absurd h (by omega)⟩
      rw [call_eq pr 9 _ _ Try.f9 fn_9 _ rfl _ ann_9 rfl]
      simp -implicitDefEqProofs only [r0a, fa g0, r1a, tr g1, go_sem, Nat.reduceAdd, Nat.reduceSub, Nat.reduceMul, Nat.reduceMod, Nat.reduceLT, Nat.reduceLeDiff, Nat.reduceEqDiff, Nat.reduceBEq, Nat.reduceDiv, Int.reduceLT, Int.reduceLE, Int.reduceToNat, Int.reduceNeg, Int.reduceEq, ↓reduceIte, reduceCtorEq, ↓reduceDIte, Bool.false_eq_true, Bool.true_eq_false, ne_eq, not_true_eq_false, not_false_eq_true, Bool.true_or, Bool.false_or, Bool.or_true, Bool.or_false, Bool.true_and, Bool.false_and, Bool.and_true, Bool.and_false, Bool.not_true, Bool.not_false, Bool.not_eq_false', Bool.not_eq_true', and_true, true_and, and_false, false_and, or_true, true_or, or_false, false_or, and_self, or_self, decide_eq_true_eq, decide_true, decide_false, decide_eq_false_iff_not, ite_not, if_true, if_false, eq_self]
    · refine ⟨r1, ?_, by omega, fun _ => ⟨r0c (by omega), r1c (by omega), trivial⟩⟩
      rw [call_eq pr 9 _ _ Try.f9 fn_9 _ rfl _ ann_9 rfl]
      simp -implicitDefEqProofs only [r0a, fa g0, r1a, fa g1, go_sem, Nat.reduceAdd, Nat.reduceSub, Nat.reduceMul, Nat.reduceMod, Nat.reduceLT, Nat.reduceLeDiff, Nat.reduceEqDiff, Nat.reduceBEq, Nat.reduceDiv, Int.reduceLT, Int.reduceLE, Int.reduceToNat, Int.reduceNeg, Int.reduceEq, ↓reduceIte, reduceCtorEq, ↓reduceDIte, Bool.false_eq_true, Bool.true_eq_false, ne_eq, not_true_eq_false, not_false_eq_true, Bool.true_or, Bool.false_or, Bool.or_true, Bool.or_false, Bool.true_and, Bool.false_and, Bool.and_true, Bool.and_false, Bool.not_true, Bool.not_false, Bool.not_eq_false', Bool.not_eq_true', and_true, true_and, and_false, false_and, or_true, true_or, or_false, false_or, and_self, or_self, decide_eq_true_eq, decide_true, decide_false, decide_eq_false_iff_not, ite_not, if_true, if_false, eq_self]

theorem tol_Int64S (xs : List (Ty.Den (.int .i64))) : ∀ (done : List (Ty.Den (.int .i64))), done.length + xs.length ≤ wide →
    loopOf pr 17 0 ⟨[(0, .d (.slice (.int .i64)) (done ++ xs)), (3, .os (.t 448)), (4, I done.length)], [(448, .arr true false (.int .i64) (done ++ List.replicate xs.length (0 : Int)))]⟩ = some (.exit 0, ⟨[(0, .d (.slice (.int .i64)) (done ++ xs)), (3, .os (.t 448)), (4, I ((done.length + xs.length : Nat) : Int))], [(448, .arr true false (.int .i64) (done ++ xs))]⟩) := by
  induction xs with
  | nil =>
    intro done hb
    rw [loop_eq pr 17 0 _ Try.f17 fn_17 _ rfl _ ann_17 _ rfl]
    simp -implicitDefEqProofs only [Int.lt_irrefl, List.append_nil, Nat.add_zero, go_sem, Nat.reduceAdd, Nat.reduceSub, Nat.reduceMul, Nat.reduceMod, Nat.reduceLT, Nat.reduceLeDiff, Nat.reduceEqDiff, Nat.reduceBEq, Nat.reduceDiv, Int.reduceLT, Int.reduceLE, Int.reduceToNat, Int.reduceNeg, Int.reduceEq, ↓reduceIte, reduceCtorEq, ↓reduceDIte, Bool.false_eq_true, Bool.true_eq_false, ne_eq, not_true_eq_false, not_false_eq_true, Bool.true_or, Bool.false_or, Bool.or_true, Bool.or_false, Bool.true_and, Bool.false_and, Bool.and_true, Bool.and_false, Bool.not_true, Bool.not_false, Bool.not_eq_false', Bool.not_eq_true', and_true, true_and, and_false, false_and, or_true, true_or, or_false, false_or, and_self, or_self, decide_eq_true_eq, decide_true, decide_false, decide_eq_false_iff_not, ite_not, if_true, if_false, eq_self]
  | cons x xs ih =>
    intro done hb
    simp only [List.length_cons, wide] at hb
    have hn : IntKind.i64.wrap ((done.length : Int) + 1) = ((done.length + 1 : Nat) : Int) := by rw [wrap_i] <;> omega
    have ih := ih (done ++ [x]) (by simp only [List.length_append, List.length_cons, List.length_nil, wide]; omega)
    have e1 : (done ++ [x]).length = done.length + 1 := by simp
    have e2 : done.length + 1 + xs.length = done.length + (x :: xs).length := by simp; omega
    have e3 : List.replicate (x :: xs).length (0 : Int) = (0 : Int) :: List.replicate xs.length (0 : Int) := rfl
    rw [app_one, app_one, e1, e2] at ih
    rw [e3]
    rw [loop_eq pr 17 0 _ Try.f17 fn_17 _ rfl _ ann_17 _ rfl]
    simp -implicitDefEqProofs only [getD_app, set_app, lt_app, ltn_app, zero_le_cast, Int.toNat_natCast, hn, go_sem, Nat.reduceAdd, Nat.reduceSub, Nat.reduceMul, Nat.reduceMod, Nat.reduceLT, Nat.reduceLeDiff, Nat.reduceEqDiff, Nat.reduceBEq, Nat.reduceDiv, Int.reduceLT, Int.reduceLE, Int.reduceToNat, Int.reduceNeg, Int.reduceEq, ↓reduceIte, reduceCtorEq, ↓reduceDIte, Bool.false_eq_true, Bool.true_eq_false, ne_eq, not_true_eq_false, not_false_eq_true, Bool.true_or, Bool.false_or, Bool.or_true, Bool.or_false, Bool.true_and, Bool.false_and, Bool.and_true, Bool.and_false, Bool.not_true, Bool.not_false, Bool.not_eq_false', Bool.not_eq_true', and_true, true_and, and_false, false_and, or_true, true_or, or_false, false_or, and_self, or_self, decide_eq_true_eq, decide_true, decide_false, decide_eq_false_iff_not, ite_not, if_true, if_false, eq_self]
    exact ih
theorem to_Int64S (xs : List (Ty.Den (.int .i64))) (hb : xs.length ≤ 1000000000000) : callOf pr 17 [.d (.slice (.int .i64)) xs] [] = some (.os (.t 448), [(448, .arr true false (.int .i64) xs)]) := by
  have h := tol_Int64S xs [] (by simp only [List.length_nil, wide]; omega)
  simp only [List.nil_append, List.length_nil] at h
  have h : loopOf pr 17 0 ⟨[(0, .d (.slice (.int .i64)) xs), (3, .os (.t 448)), (4, I 0)], [(448, .arr true false (.int .i64) (List.replicate xs.length (0 : Int)))]⟩ = _ := h
  have h1 : (((8 : Nat) : Int) * (xs.length : Int) ≤ 140737488355328) = True := by simp; omega
  have h2 : ((xs.length : Int) ≤ 9223372036854775807) = True := by simp; omega
  rw [call_eq pr 17 _ _ Try.f17 fn_17 _ rfl _ ann_17 rfl]
  simp -implicitDefEqProofs only [zero_le_cast, Int.le_refl, h1, h2, Int.toNat_natCast, h, go_sem, Nat.reduceAdd, Nat.reduceSub, Nat.reduceMul, Nat.reduceMod, Nat.reduceLT, Nat.reduceLeDiff, Nat.reduceEqDiff, Nat.reduceBEq, Nat.reduceDiv, Int.reduceLT, Int.reduceLE, Int.reduceToNat, Int.reduceNeg, Int.reduceEq, ↓reduceIte, reduceCtorEq, ↓reduceDIte, Bool.false_eq_true, Bool.true_eq_false, ne_eq, not_true_eq_false, not_false_eq_true, Bool.true_or, Bool.false_or, Bool.or_true, Bool.or_false, Bool.true_and, Bool.false_and, Bool.and_true, Bool.and_false, Bool.not_true, Bool.not_false, Bool.not_eq_false', Bool.not_eq_true', and_true, true_and, and_false, false_and, or_true, true_or, or_false, false_or, and_self, or_self, decide_eq_true_eq, decide_true, decide_false, decide_eq_false_iff_not, ite_not, if_true, if_false, eq_self]

theorem tol_Int64SS (xs : List (Ty.Den (.slice (.int .i64)))) : ∀ (done : List (Ty.Den (.slice (.int .i64)))), done.length + xs.length ≤ wide → (∀ x ∈ xs, x.length ≤ 1000000000000) →
    loopOf pr 51 0 ⟨[(0, .d (.slice (.slice (.int .i64))) (done ++ xs)), (3, .os (.t 448)), (4, I done.length)], [(448, .arr true true (.slice (.int .i64)) (done ++ List.replicate xs.length ([] : List (Ty.Den (.int .i64)))))]⟩ = some (.exit 0, ⟨[(0, .d (.slice (.slice (.int .i64))) (done ++ xs)), (3, .os (.t 448)), (4, I ((done.length + xs.length : Nat) : Int))], [(448, .arr true true (.slice (.int .i64)) (done ++ xs))]⟩) := by
  induction xs with
  | nil =>
    intro done hb hx
    rw [loop_eq pr 51 0 _ Try.f51 fn_51 _ rfl _ ann_51 _ rfl]
    simp -implicitDefEqProofs only [Int.lt_irrefl, List.append_nil, Nat.add_zero, go_sem, Nat.reduceAdd, Nat.reduceSub, Nat.reduceMul, Nat.reduceMod, Nat.reduceLT, Nat.reduceLeDiff, Nat.reduceEqDiff, Nat.reduceBEq, Nat.reduceDiv, Int.reduceLT, Int.reduceLE, Int.reduceToNat, Int.reduceNeg, Int.reduceEq, ↓reduceIte, reduceCtorEq, ↓reduceDIte, Bool.false_eq_true, Bool.true_eq_false, ne_eq, not_true_eq_false, not_false_eq_true, Bool.true_or, Bool.false_or, Bool.or_true, Bool.or_false, Bool.true_and, Bool.false_and, Bool.and_true, Bool.and_false, Bool.not_true, Bool.not_false, Bool.not_eq_false', Bool.not_eq_true', and_true, true_and, and_false, false_and, or_true, true_or, or_false, false_or, and_self, or_self, decide_eq_true_eq, decide_true, decide_false, decide_eq_false_iff_not, ite_not, if_true, if_false, eq_self]
  | cons x xs ih =>
    intro done hb hx
    simp only [List.length_cons, wide] at hb
    have hn : IntKind.i64.wrap ((done.length : Int) + 1) = ((done.length + 1 : Nat) : Int) := by rw [wrap_i] <;> omega
    have ih := ih (done ++ [x]) (by simp only [List.length_append, List.length_cons, List.length_nil, wide]; omega) (fun y hy => hx y (by simp [hy]))
    have e1 : (done ++ [x]).length = done.length + 1 := by simp
    have e2 : done.length + 1 + xs.length = done.length + (x :: xs).length := by simp; omega
    have e3 : List.replicate (x :: xs).length ([] : List (Ty.Den (.int .i64))) = ([] : List (Ty.Den (.int .i64))) :: List.replicate xs.length ([] : List (Ty.Den (.int .i64))) := rfl
    rw [app_one, app_one, e1, e2] at ih
    rw [e3]
    rw [loop_eq pr 51 0 _ Try.f51 fn_51 _ rfl _ ann_51 _ rfl]
    simp -implicitDefEqProofs only [getD_app, set_app, lt_app, ltn_app, zero_le_cast, Int.toNat_natCast, hn, to_Int64S x (hx x (by simp)), go_sem, Nat.reduceAdd, Nat.reduceSub, Nat.reduceMul, Nat.reduceMod, Nat.reduceLT, Nat.reduceLeDiff, Nat.reduceEqDiff, Nat.reduceBEq, Nat.reduceDiv, Int.reduceLT, Int.reduceLE, Int.reduceToNat, Int.reduceNeg, Int.reduceEq, ↓reduceIte, reduceCtorEq, ↓reduceDIte, Bool.false_eq_true, Bool.true_eq_false, ne_eq, not_true_eq_false, not_false_eq_true, Bool.true_or, Bool.false_or, Bool.or_true, Bool.or_false, Bool.true_and, Bool.false_and, Bool.and_true, Bool.and_false, Bool.not_true, Bool.not_false, Bool.not_eq_false', Bool.not_eq_true', and_true, true_and, and_false, false_and, or_true, true_or, or_false, false_or, and_self, or_self, decide_eq_true_eq, decide_true, decide_false, decide_eq_false_iff_not, ite_not, if_true, if_false, eq_self]
    exact ih
theorem to_Int64SS (xs : List (Ty.Den (.slice (.int .i64)))) (hb : xs.length ≤ 1000000000000) (hx : ∀ x ∈ xs, x.length ≤ 1000000000000) : callOf pr 51 [.d (.slice (.slice (.int .i64))) xs] [] = some (.os (.t 448), [(448, .arr true true (.slice (.int .i64)) xs)]) := by
  have h := tol_Int64SS xs [] (by simp only [List.length_nil, wide]; omega) hx
  simp only [List.nil_append, List.length_nil] at h
  have h : loopOf pr 51 0 ⟨[(0, .d (.slice (.slice (.int .i64))) xs), (3, .os (.t 448)), (4, I 0)], [(448, .arr true true (.slice (.int .i64)) (List.replicate xs.length ([] : List (Ty.Den (.int .i64)))))]⟩ = _ := h
  have h1 : (((24 : Nat) : Int) * (xs.length : Int) ≤ 140737488355328) = True := by simp; omega
  have h2 : ((xs.length : Int) ≤ 9223372036854775807) = True := by simp; omega
  rw [call_eq pr 51 _ _ Try.f51 fn_51 _ rfl _ ann_51 rfl]
  simp -implicitDefEqProofs only [zero_le_cast, Int.le_refl, h1, h2, Int.toNat_natCast, h, go_sem, Nat.reduceAdd, Nat.reduceSub, Nat.reduceMul, Nat.reduceMod, Nat.reduceLT, Nat.reduceLeDiff, Nat.reduceEqDiff, Nat.reduceBEq, Nat.reduceDiv, Int.reduceLT, Int.reduceLE, Int.reduceToNat, Int.reduceNeg, Int.reduceEq, ↓reduceIte, reduceCtorEq, ↓reduceDIte, Bool.false_eq_true, Bool.true_eq_false, ne_eq, not_true_eq_false, not_false_eq_true, Bool.true_or, Bool.false_or, Bool.or_true, Bool.or_false, Bool.true_and, Bool.false_and, Bool.and_true, Bool.and_false, Bool.not_true, Bool.not_false, Bool.not_eq_false', Bool.not_eq_true', and_true, true_and, and_false, false_and, or_true, true_or, or_false, false_or, and_self, or_self, decide_eq_true_eq, decide_true, decide_false, decide_eq_false_iff_not, ite_not, if_true, if_false, eq_self]

theorem to_Access (x : Ty.Den (.agg (.cons (.int .i64) (.cons (.int .i64) .nil)))) : callOf pr 79 [.agg [I x.1, I x.2.1]] [] = some (.agg [I x.1, I x.2.1], []) := by
  rw [call_eq pr 79 _ _ Try.f79 fn_79 _ rfl _ ann_79 rfl]
  simp -implicitDefEqProofs only [go_sem, Nat.reduceAdd, Nat.reduceSub, Nat.reduceMul, Nat.reduceMod, Nat.reduceLT, Nat.reduceLeDiff, Nat.reduceEqDiff, Nat.reduceBEq, Nat.reduceDiv, Int.reduceLT, Int.reduceLE, Int.reduceToNat, Int.reduceNeg, Int.reduceEq, ↓reduceIte, reduceCtorEq, ↓reduceDIte, Bool.false_eq_true, Bool.true_eq_false, ne_eq, not_true_eq_false, not_false_eq_true, Bool.true_or, Bool.false_or, Bool.or_true, Bool.or_false, Bool.true_and, Bool.false_and, Bool.and_true, Bool.and_false, Bool.not_true, Bool.not_false, Bool.not_eq_false', Bool.not_eq_true', and_true, true_and, and_false, false_and, or_true, true_or, or_false, false_or, and_self, or_self, decide_eq_true_eq, decide_true, decide_false, decide_eq_false_iff_not, ite_not, if_true, if_false, eq_self]

theorem tol_AccessS (xs : List (Ty.Den (.agg (.cons (.int .i64) (.cons (.int .i64) .nil))))) : ∀ (done : List (Ty.Den (.agg (.cons (.int .i64) (.cons (.int .i64) .nil))))), done.length + xs.length ≤ wide →
    loopOf pr 42 0 ⟨[(0, .d (.slice (.agg (.cons (.int .i64) (.cons (.int .i64) .nil)))) (done ++ xs)), (3, .os (.t 448)), (4, I done.length)], [(448, .arr true false (.agg (.cons (.int .i64) (.cons (.int .i64) .nil))) (done ++ List.replicate xs.length ((0 : Int), (0 : Int), ())))]⟩ = some (.exit 0, ⟨[(0, .d (.slice (.agg (.cons (.int .i64) (.cons (.int .i64) .nil)))) (done ++ xs)), (3, .os (.t 448)), (4, I ((done.length + xs.length : Nat) : Int))], [(448, .arr true false (.agg (.cons (.int .i64) (.cons (.int .i64) .nil))) (done ++ xs))]⟩) := by
  induction xs with
  | nil =>
    intro done hb
    rw [loop_eq pr 42 0 _ Try.f42 fn_42 _ rfl _ ann_42 _ rfl]
    simp -implicitDefEqProofs only [Int.lt_irrefl, List.append_nil, Nat.add_zero, go_sem, Nat.reduceAdd, Nat.reduceSub, Nat.reduceMul, Nat.reduceMod, Nat.reduceLT, Nat.reduceLeDiff, Nat.reduceEqDiff, Nat.reduceBEq, Nat.reduceDiv, Int.reduceLT, Int.reduceLE, Int.reduceToNat, Int.reduceNeg, Int.reduceEq, ↓reduceIte, reduceCtorEq, ↓reduceDIte, Bool.false_eq_true, Bool.true_eq_false, ne_eq, not_true_eq_false, not_false_eq_true, Bool.true_or, Bool.false_or, Bool.or_true, Bool.or_false, Bool.true_and, Bool.false_and, Bool.and_true, Bool.and_false, Bool.not_true, Bool.not_false, Bool.not_eq_false', Bool.not_eq_true', and_true, true_and, and_false, false_and, or_true, true_or, or_false, false_or, and_self, or_self, decide_eq_true_eq, decide_true, decide_false, decide_eq_false_iff_not, ite_not, if_true, if_false, eq_self]
  | cons x xs ih =>
    intro done hb
    simp only [List.length_cons, wide] at hb
    have hn : IntKind.i64.wrap ((done.length : Int) + 1) = ((done.length + 1 : Nat) : Int) := by rw [wrap_i] <;> omega
    have ih := ih (done ++ [x]) (by simp only [List.length_append, List.length_cons, List.length_nil, wide]; omega)
    have e1 : (done ++ [x]).length = done.length + 1 := by simp
    have e2 : done.length + 1 + xs.length = done.length + (x :: xs).length := by simp; omega
    have e3 : List.replicate (x :: xs).length ((0 : Int), (0 : Int), ()) = ((0 : Int), (0 : Int), ()) :: List.replicate xs.length ((0 : Int), (0 : Int), ()) := rfl
    rw [app_one, app_one, e1, e2] at ih
    rw [e3]
    rw [loop_eq pr 42 0 _ Try.f42 fn_42 _ rfl _ ann_42 _ rfl]
    obtain ⟨a0, a1, ⟨⟩⟩ := x
    simp -implicitDefEqProofs only [getD_app, set_app, lt_app, ltn_app, zero_le_cast, Int.toNat_natCast, hn, to_Access ((a0, a1, ())), go_sem, Nat.reduceAdd, Nat.reduceSub, Nat.reduceMul, Nat.reduceMod, Nat.reduceLT, Nat.reduceLeDiff, Nat.reduceEqDiff, Nat.reduceBEq, Nat.reduceDiv, Int.reduceLT, Int.reduceLE, Int.reduceToNat, Int.reduceNeg, Int.reduceEq, ↓reduceIte, reduceCtorEq, ↓reduceDIte, Bool.false_eq_true, Bool.true_eq_false, ne_eq, not_true_eq_false, not_false_eq_true, Bool.true_or, Bool.false_or, Bool.or_true, Bool.or_false, Bool.true_and, Bool.false_and, Bool.and_true, Bool.and_false, Bool.not_true, Bool.not_false, Bool.not_eq_false', Bool.not_eq_true', and_true, true_and, and_false, false_and, or_true, true_or, or_false, false_or, and_self, or_self, decide_eq_true_eq, decide_true, decide_false, decide_eq_false_iff_not, ite_not, if_true, if_false, eq_self]
    exact ih
theorem to_AccessS (xs : List (Ty.Den (.agg (.cons (.int .i64) (.cons (.int .i64) .nil))))) (hb : xs.length ≤ 1000000000000) : callOf pr 42 [.d (.slice (.agg (.cons (.int .i64) (.cons (.int .i64) .nil)))) xs] [] = some (.os (.t 448), [(448, .arr true false (.agg (.cons (.int .i64) (.cons (.int .i64) .nil))) xs)]) := by
  have h := tol_AccessS xs [] (by simp only [List.length_nil, wide]; omega)
  simp only [List.nil_append, List.length_nil] at h
  have h : loopOf pr 42 0 ⟨[(0, .d (.slice (.agg (.cons (.int .i64) (.cons (.int .i64) .nil)))) xs), (3, .os (.t 448)), (4, I 0)], [(448, .arr true false (.agg (.cons (.int .i64) (.cons (.int .i64) .nil))) (List.replicate xs.length ((0 : Int), (0 : Int), ())))]⟩ = _ := h
  have h1 : (((16 : Nat) : Int) * (xs.length : Int) ≤ 140737488355328) = True := by simp; omega
  have h2 : ((xs.length : Int) ≤ 9223372036854775807) = True := by simp; omega
  rw [call_eq pr 42 _ _ Try.f42 fn_42 _ rfl _ ann_42 rfl]
  simp -implicitDefEqProofs only [zero_le_cast, Int.le_refl, h1, h2, Int.toNat_natCast, h, go_sem, Nat.reduceAdd, Nat.reduceSub, Nat.reduceMul, Nat.reduceMod, Nat.reduceLT, Nat.reduceLeDiff, Nat.reduceEqDiff, Nat.reduceBEq, Nat.reduceDiv, Int.reduceLT, Int.reduceLE, Int.reduceToNat, Int.reduceNeg, Int.reduceEq, ↓reduceIte, reduceCtorEq, ↓reduceDIte, Bool.false_eq_true, Bool.true_eq_false, ne_eq, not_true_eq_false, not_false_eq_true, Bool.true_or, Bool.false_or, Bool.or_true, Bool.or_false, Bool.true_and, Bool.false_and, Bool.and_true, Bool.and_false, Bool.not_true, Bool.not_false, Bool.not_eq_false', Bool.not_eq_true', and_true, true_and, and_false, false_and, or_true, true_or, or_false, false_or, and_self, or_self, decide_eq_true_eq, decide_true, decide_false, decide_eq_false_iff_not, ite_not, if_true, if_false, eq_self]

theorem to_Policy (x : Ty.Den (.agg (.cons (.slice (.slice (.int .i64))) (.cons (.slice (.int .i64)) .nil)))) (ha : Bd small (.agg (.cons (.slice (.slice (.int .i64))) (.cons (.slice (.int .i64)) .nil))) x) : callOf pr 16 [.agg [.d (.slice (.slice (.int .i64))) x.1, .d (.slice (.int .i64)) x.2.1]] [] = some (.agg [.os (.t 384), .os (.t 640)], [(384, .arr true true (.slice (.int .i64)) x.1), (640, .arr true false (.int .i64) x.2.1)]) := by
  have h0 := to_Int64SS x.1 (Nat.le_trans ha.1.1 (by decide)) (fun y hy => Nat.le_trans (ha.1.2 y hy).1 (by decide))
  have h1 := to_Int64S x.2.1 (Nat.le_trans ha.2.1.1 (by decide))
  rw [call_eq pr 16 _ _ Try.f16 fn_16 _ rfl _ ann_16 rfl]
  simp -implicitDefEqProofs only [h0, h1, go_sem, Nat.reduceAdd, Nat.reduceSub, Nat.reduceMul, Nat.reduceMod, Nat.reduceLT, Nat.reduceLeDiff, Nat.reduceEqDiff, Nat.reduceBEq, Nat.reduceDiv, Int.reduceLT, Int.reduceLE, Int.reduceToNat, Int.reduceNeg, Int.reduceEq, ↓reduceIte, reduceCtorEq, ↓reduceDIte, Bool.false_eq_true, Bool.true_eq_false, ne_eq, not_true_eq_false, not_false_eq_true, Bool.true_or, Bool.false_or, Bool.or_true, Bool.or_false, Bool.true_and, Bool.false_and, Bool.and_true, Bool.and_false, Bool.not_true, Bool.not_false, Bool.not_eq_false', Bool.not_eq_true', and_true, true_and, and_false, false_and, or_true, true_or, or_false, false_or, and_self, or_self, decide_eq_true_eq, decide_true, decide_false, decide_eq_false_iff_not, ite_not, if_true, if_false, eq_self]

theorem to_Bench (x : Ty.Den (.agg (.cons (.slice (.agg (.cons (.int .i64) (.cons (.int .i64) .nil)))) (.cons (.agg (.cons (.slice (.slice (.int .i64))) (.cons (.slice (.int .i64)) .nil))) .nil)))) (ha : Bd small (.agg (.cons (.slice (.agg (.cons (.int .i64) (.cons (.int .i64) .nil)))) (.cons (.agg (.cons (.slice (.slice (.int .i64))) (.cons (.slice (.int .i64)) .nil))) .nil))) x) : callOf pr 11 [.agg [.d (.slice (.agg (.cons (.int .i64) (.cons (.int .i64) .nil)))) x.1, .d (.slice (.slice (.int .i64))) x.2.1.1, .d (.slice (.int .i64)) x.2.1.2.1]] [] = some (.agg [.os (.t 384), .os (.t 640), .os (.t 641)], [(384, .arr true false (.agg (.cons (.int .i64) (.cons (.int .i64) .nil))) x.1), (640, .arr true true (.slice (.int .i64)) x.2.1.1), (641, .arr true false (.int .i64) x.2.1.2.1)]) := by
  have h0 := to_AccessS x.1 (Nat.le_trans ha.1.1 (by decide))
  have h1 := to_Policy x.2.1 ha.2.1
  rw [call_eq pr 11 _ _ Try.f11 fn_11 _ rfl _ ann_11 rfl]
  simp -implicitDefEqProofs only [h0, h1, go_sem, Nat.reduceAdd, Nat.reduceSub, Nat.reduceMul, Nat.reduceMod, Nat.reduceLT, Nat.reduceLeDiff, Nat.reduceEqDiff, Nat.reduceBEq, Nat.reduceDiv, Int.reduceLT, Int.reduceLE, Int.reduceToNat, Int.reduceNeg, Int.reduceEq, ↓reduceIte, reduceCtorEq, ↓reduceDIte, Bool.false_eq_true, Bool.true_eq_false, ne_eq, not_true_eq_false, not_false_eq_true, Bool.true_or, Bool.false_or, Bool.or_true, Bool.or_false, Bool.true_and, Bool.false_and, Bool.and_true, Bool.and_false, Bool.not_true, Bool.not_false, Bool.not_eq_false', Bool.not_eq_true', and_true, true_and, and_false, false_and, or_true, true_or, or_false, false_or, and_self, or_self, decide_eq_true_eq, decide_true, decide_false, decide_eq_false_iff_not, ite_not, if_true, if_false, eq_self]

theorem eql_Int64S (xs : List (Ty.Den (.int .i64))) : ∀ (done : List (Ty.Den (.int .i64))), done.length + xs.length ≤ wide → (∀ x ∈ xs, Bd wide (.int .i64) x) →
    loopOf pr 20 0 ⟨[(0, .d (.slice (.int .i64)) (done ++ xs)), (1, .d (.slice (.int .i64)) (done ++ xs)), (5, I done.length)], []⟩ = some (.exit 0, ⟨[(0, .d (.slice (.int .i64)) (done ++ xs)), (1, .d (.slice (.int .i64)) (done ++ xs)), (5, I ((done.length + xs.length : Nat) : Int))], []⟩) := by
  induction xs with
  | nil =>
    intro done hb hx
    rw [loop_eq pr 20 0 _ Try.f20 fn_20 _ rfl _ ann_20 _ rfl]
    simp -implicitDefEqProofs only [Int.lt_irrefl, List.append_nil, Nat.add_zero, go_sem, Nat.reduceAdd, Nat.reduceSub, Nat.reduceMul, Nat.reduceMod, Nat.reduceLT, Nat.reduceLeDiff, Nat.reduceEqDiff, Nat.reduceBEq, Nat.reduceDiv, Int.reduceLT, Int.reduceLE, Int.reduceToNat, Int.reduceNeg, Int.reduceEq, ↓reduceIte, reduceCtorEq, ↓reduceDIte, Bool.false_eq_true, Bool.true_eq_false, ne_eq, not_true_eq_false, not_false_eq_true, Bool.true_or, Bool.false_or, Bool.or_true, Bool.or_false, Bool.true_and, Bool.false_and, Bool.and_true, Bool.and_false, Bool.not_true, Bool.not_false, Bool.not_eq_false', Bool.not_eq_true', and_true, true_and, and_false, false_and, or_true, true_or, or_false, false_or, and_self, or_self, decide_eq_true_eq, decide_true, decide_false, decide_eq_false_iff_not, ite_not, if_true, if_false, eq_self]
  | cons x xs ih =>
    intro done hb hx
    simp only [List.length_cons, wide] at hb
    have hn : IntKind.i64.wrap ((done.length : Int) + 1) = ((done.length + 1 : Nat) : Int) := by rw [wrap_i] <;> omega
    have ih := ih (done ++ [x]) (by simp only [List.length_append, List.length_cons, List.length_nil, wide]; omega) (fun y hy => hx y (by simp [hy]))
    have e1 : (done ++ [x]).length = done.length + 1 := by simp
    have e2 : done.length + 1 + xs.length = done.length + (x :: xs).length := by simp; omega
    rw [app_one, e1, e2] at ih
    rw [loop_eq pr 20 0 _ Try.f20 fn_20 _ rfl _ ann_20 _ rfl]
    simp -implicitDefEqProofs only [getD_app, set_app, lt_app, ltn_app, zero_le_cast, Int.toNat_natCast, hn, BEq.rfl, beq_self_eq_true, decide_true, go_sem, Nat.reduceAdd, Nat.reduceSub, Nat.reduceMul, Nat.reduceMod, Nat.reduceLT, Nat.reduceLeDiff, Nat.reduceEqDiff, Nat.reduceBEq, Nat.reduceDiv, Int.reduceLT, Int.reduceLE, Int.reduceToNat, Int.reduceNeg, Int.reduceEq, ↓reduceIte, reduceCtorEq, ↓reduceDIte, Bool.false_eq_true, Bool.true_eq_false, ne_eq, not_true_eq_false, not_false_eq_true, Bool.true_or, Bool.false_or, Bool.or_true, Bool.or_false, Bool.true_and, Bool.false_and, Bool.and_true, Bool.and_false, Bool.not_true, Bool.not_false, Bool.not_eq_false', Bool.not_eq_true', and_true, true_and, and_false, false_and, or_true, true_or, or_false, false_or, and_self, or_self, decide_eq_true_eq, decide_true, decide_false, decide_eq_false_iff_not, ite_not, if_true, if_false, eq_self]
    exact ih
theorem eq_Int64S (xs : List (Ty.Den (.int .i64))) (ha : Bd wide (.slice (.int .i64)) xs) : callOf pr 20 [.d (.slice (.int .i64)) xs, .d (.slice (.int .i64)) xs] [] = some (B true, []) := by
  have h := eql_Int64S xs [] (by rw [List.length_nil, Nat.zero_add]; exact ha.1) ha.2
  simp only [List.nil_append, List.length_nil] at h
  have h : loopOf pr 20 0 ⟨[(0, .d (.slice (.int .i64)) xs), (1, .d (.slice (.int .i64)) xs), (5, I 0)], []⟩ = _ := h
  rw [call_eq pr 20 _ _ Try.f20 fn_20 _ rfl _ ann_20 rfl]
  simp -implicitDefEqProofs only [h, go_sem, Nat.reduceAdd, Nat.reduceSub, Nat.reduceMul, Nat.reduceMod, Nat.reduceLT, Nat.reduceLeDiff, Nat.reduceEqDiff, Nat.reduceBEq, Nat.reduceDiv, Int.reduceLT, Int.reduceLE, Int.reduceToNat, Int.reduceNeg, Int.reduceEq, ↓reduceIte, reduceCtorEq, ↓reduceDIte, Bool.false_eq_true, Bool.true_eq_false, ne_eq, not_true_eq_false, not_false_eq_true, Bool.true_or, Bool.false_or, Bool.or_true, Bool.or_false, Bool.true_and, Bool.false_and, Bool.and_true, Bool.and_false, Bool.not_true, Bool.not_false, Bool.not_eq_false', Bool.not_eq_true', and_true, true_and, and_false, false_and, or_true, true_or, or_false, false_or, and_self, or_self, decide_eq_true_eq, decide_true, decide_false, decide_eq_false_iff_not, ite_not, if_true, if_false, eq_self]
theorem eqn_Int64S : callOf pr 20 [.nilS, .nilS] [] = some (B true, []) := by
  have h : loopOf pr 20 0 ⟨[(0, .nilS), (1, .nilS), (5, I 0)], []⟩ = some (.exit 0, ⟨[(0, .nilS), (1, .nilS), (5, I 0)], []⟩) := by
    rw [loop_eq pr 20 0 _ Try.f20 fn_20 _ rfl _ ann_20 _ rfl]
    simp -implicitDefEqProofs only [Int.lt_irrefl, go_sem, Nat.reduceAdd, Nat.reduceSub, Nat.reduceMul, Nat.reduceMod, Nat.reduceLT, Nat.reduceLeDiff, Nat.reduceEqDiff, Nat.reduceBEq, Nat.reduceDiv, Int.reduceLT, Int.reduceLE, Int.reduceToNat, Int.reduceNeg, Int.reduceEq, ↓reduceIte, reduceCtorEq, ↓reduceDIte, Bool.false_eq_true, Bool.true_eq_false, ne_eq, not_true_eq_false, not_false_eq_true, Bool.true_or, Bool.false_or, Bool.or_true, Bool.or_false, Bool.true_and, Bool.false_and, Bool.and_true, Bool.and_false, Bool.not_true, Bool.not_false, Bool.not_eq_false', Bool.not_eq_true', and_true, true_and, and_false, false_and, or_true, true_or, or_false, false_or, and_self, or_self, decide_eq_true_eq, decide_true, decide_false, decide_eq_false_iff_not, ite_not, if_true, if_false, eq_self]
  rw [call_eq pr 20 _ _ Try.f20 fn_20 _ rfl _ ann_20 rfl]
  simp -implicitDefEqProofs only [h, go_sem, Nat.reduceAdd, Nat.reduceSub, Nat.reduceMul, Nat.reduceMod, Nat.reduceLT, Nat.reduceLeDiff, Nat.reduceEqDiff, Nat.reduceBEq, Nat.reduceDiv, Int.reduceLT, Int.reduceLE, Int.reduceToNat, Int.reduceNeg, Int.reduceEq, ↓reduceIte, reduceCtorEq, ↓reduceDIte, Bool.false_eq_true, Bool.true_eq_false, ne_eq, not_true_eq_false, not_false_eq_true, Bool.true_or, Bool.false_or, Bool.or_true, Bool.or_false, Bool.true_and, Bool.false_and, Bool.and_true, Bool.and_false, Bool.not_true, Bool.not_false, Bool.not_eq_false', Bool.not_eq_true', and_true, true_and, and_false, false_and, or_true, true_or, or_false, false_or, and_self, or_self, decide_eq_true_eq, decide_true, decide_false, decide_eq_false_iff_not, ite_not, if_true, if_false, eq_self]
theorem eqe_Int64S : callOf pr 20 [.nilS, .d (.slice (.int .i64)) ([] : List (Ty.Den (.int .i64)))] [] = some (B true, []) := by
  have h : loopOf pr 20 0 ⟨[(0, .nilS), (1, .d (.slice (.int .i64)) ([] : List (Ty.Den (.int .i64)))), (5, I 0)], []⟩ = some (.exit 0, ⟨[(0, .nilS), (1, .d (.slice (.int .i64)) ([] : List (Ty.Den (.int .i64)))), (5, I 0)], []⟩) := by
    rw [loop_eq pr 20 0 _ Try.f20 fn_20 _ rfl _ ann_20 _ rfl]
    simp -implicitDefEqProofs only [Int.lt_irrefl, Int.natCast_zero, go_sem, Nat.reduceAdd, Nat.reduceSub, Nat.reduceMul, Nat.reduceMod, Nat.reduceLT, Nat.reduceLeDiff, Nat.reduceEqDiff, Nat.reduceBEq, Nat.reduceDiv, Int.reduceLT, Int.reduceLE, Int.reduceToNat, Int.reduceNeg, Int.reduceEq, ↓reduceIte, reduceCtorEq, ↓reduceDIte, Bool.false_eq_true, Bool.true_eq_false, ne_eq, not_true_eq_false, not_false_eq_true, Bool.true_or, Bool.false_or, Bool.or_true, Bool.or_false, Bool.true_and, Bool.false_and, Bool.and_true, Bool.and_false, Bool.not_true, Bool.not_false, Bool.not_eq_false', Bool.not_eq_true', and_true, true_and, and_false, false_and, or_true, true_or, or_false, false_or, and_self, or_self, decide_eq_true_eq, decide_true, decide_false, decide_eq_false_iff_not, ite_not, if_true, if_false, eq_self]
  rw [call_eq pr 20 _ _ Try.f20 fn_20 _ rfl _ ann_20 rfl]
  simp -implicitDefEqProofs only [h, Int.natCast_zero, go_sem, Nat.reduceAdd, Nat.reduceSub, Nat.reduceMul, Nat.reduceMod, Nat.reduceLT, Nat.reduceLeDiff, Nat.reduceEqDiff, Nat.reduceBEq, Nat.reduceDiv, Int.reduceLT, Int.reduceLE, Int.reduceToNat, Int.reduceNeg, Int.reduceEq, ↓reduceIte, reduceCtorEq, ↓reduceDIte, Bool.false_eq_true, Bool.true_eq_false, ne_eq, not_true_eq_false, not_false_eq_true, Bool.true_or, Bool.false_or, Bool.or_true, Bool.or_false, Bool.true_and, Bool.false_and, Bool.and_true, Bool.and_false, Bool.not_true, Bool.not_false, Bool.not_eq_false', Bool.not_eq_true', and_true, true_and, and_false, false_and, or_true, true_or, or_false, false_or, and_self, or_self, decide_eq_true_eq, decide_true, decide_false, decide_eq_false_iff_not, ite_not, if_true, if_false, eq_self]

theorem eql_Int64SS (xs : List (Ty.Den (.slice (.int .i64)))) : ∀ (done : List (Ty.Den (.slice (.int .i64)))), done.length + xs.length ≤ wide → (∀ x ∈ xs, Bd wide (.slice (.int .i64)) x) →
    loopOf pr 54 0 ⟨[(0, .d (.slice (.slice (.int .i64))) (done ++ xs)), (1, .d (.slice (.slice (.int .i64))) (done ++ xs)), (5, I done.length)], []⟩ = some (.exit 0, ⟨[(0, .d (.slice (.slice (.int .i64))) (done ++ xs)), (1, .d (.slice (.slice (.int .i64))) (done ++ xs)), (5, I ((done.length + xs.length : Nat) : Int))], []⟩) := by
  induction xs with
  | nil =>
    intro done hb hx
    rw [loop_eq pr 54 0 _ Try.f54 fn_54 _ rfl _ ann_54 _ rfl]
    simp -implicitDefEqProofs only [Int.lt_irrefl, List.append_nil, Nat.add_zero, go_sem, Nat.reduceAdd, Nat.reduceSub, Nat.reduceMul, Nat.reduceMod, Nat.reduceLT, Nat.reduceLeDiff, Nat.reduceEqDiff, Nat.reduceBEq, Nat.reduceDiv, Int.reduceLT, Int.reduceLE, Int.reduceToNat, Int.reduceNeg, Int.reduceEq, ↓reduceIte, reduceCtorEq, ↓reduceDIte, Bool.false_eq_true, Bool.true_eq_false, ne_eq, not_true_eq_false, not_false_eq_true, Bool.true_or, Bool.false_or, Bool.or_true, Bool.or_false, Bool.true_and, Bool.false_and, Bool.and_true, Bool.and_false, Bool.not_true, Bool.not_false, Bool.not_eq_false', Bool.not_eq_true', and_true, true_and, and_false, false_and, or_true, true_or, or_false, false_or, and_self, or_self, decide_eq_true_eq, decide_true, decide_false, decide_eq_false_iff_not, ite_not, if_true, if_false, eq_self]
  | cons x xs ih =>
    intro done hb hx
    simp only [List.length_cons, wide] at hb
    have hn : IntKind.i64.wrap ((done.length : Int) + 1) = ((done.length + 1 : Nat) : Int) := by rw [wrap_i] <;> omega
    have ih := ih (done ++ [x]) (by simp only [List.length_append, List.length_cons, List.length_nil, wide]; omega) (fun y hy => hx y (by simp [hy]))
    have e1 : (done ++ [x]).length = done.length + 1 := by simp
    have e2 : done.length + 1 + xs.length = done.length + (x :: xs).length := by simp; omega
    rw [app_one, e1, e2] at ih
    rw [loop_eq pr 54 0 _ Try.f54 fn_54 _ rfl _ ann_54 _ rfl]
    simp -implicitDefEqProofs only [getD_app, set_app, lt_app, ltn_app, zero_le_cast, Int.toNat_natCast, hn, BEq.rfl, beq_self_eq_true, decide_true, eq_Int64S x (hx x (by simp)), go_sem, Nat.reduceAdd, Nat.reduceSub, Nat.reduceMul, Nat.reduceMod, Nat.reduceLT, Nat.reduceLeDiff, Nat.reduceEqDiff, Nat.reduceBEq, Nat.reduceDiv, Int.reduceLT, Int.reduceLE, Int.reduceToNat, Int.reduceNeg, Int.reduceEq, ↓reduceIte, reduceCtorEq, ↓reduceDIte, Bool.false_eq_true, Bool.true_eq_false, ne_eq, not_true_eq_false, not_false_eq_true, Bool.true_or, Bool.false_or, Bool.or_true, Bool.or_false, Bool.true_and, Bool.false_and, Bool.and_true, Bool.and_false, Bool.not_true, Bool.not_false, Bool.not_eq_false', Bool.not_eq_true', and_true, true_and, and_false, false_and, or_true, true_or, or_false, false_or, and_self, or_self, decide_eq_true_eq, decide_true, decide_false, decide_eq_false_iff_not, ite_not, if_true, if_false, eq_self]
    exact ih
theorem eq_Int64SS (xs : List (Ty.Den (.slice (.int .i64)))) (ha : Bd wide (.slice (.slice (.int .i64))) xs) : callOf pr 54 [.d (.slice (.slice (.int .i64))) xs, .d (.slice (.slice (.int .i64))) xs] [] = some (B true, []) := by
  have h := eql_Int64SS xs [] (by rw [List.length_nil, Nat.zero_add]; exact ha.1) ha.2
  simp only [List.nil_append, List.length_nil] at h
  have h : loopOf pr 54 0 ⟨[(0, .d (.slice (.slice (.int .i64))) xs), (1, .d (.slice (.slice (.int .i64))) xs), (5, I 0)], []⟩ = _ := h
  rw [call_eq pr 54 _ _ Try.f54 fn_54 _ rfl _ ann_54 rfl]
  simp -implicitDefEqProofs only [h, go_sem, Nat.reduceAdd, Nat.reduceSub, Nat.reduceMul, Nat.reduceMod, Nat.reduceLT, Nat.reduceLeDiff, Nat.reduceEqDiff, Nat.reduceBEq, Nat.reduceDiv, Int.reduceLT, Int.reduceLE, Int.reduceToNat, Int.reduceNeg, Int.reduceEq, ↓reduceIte, reduceCtorEq, ↓reduceDIte, Bool.false_eq_true, Bool.true_eq_false, ne_eq, not_true_eq_false, not_false_eq_true, Bool.true_or, Bool.false_or, Bool.or_true, Bool.or_false, Bool.true_and, Bool.false_and, Bool.and_true, Bool.and_false, Bool.not_true, Bool.not_false, Bool.not_eq_false', Bool.not_eq_true', and_true, true_and, and_false, false_and, or_true, true_or, or_false, false_or, and_self, or_self, decide_eq_true_eq, decide_true, decide_false, decide_eq_false_iff_not, ite_not, if_true, if_false, eq_self]
theorem eqn_Int64SS : callOf pr 54 [.nilS, .nilS] [] = some (B true, []) := by
  have h : loopOf pr 54 0 ⟨[(0, .nilS), (1, .nilS), (5, I 0)], []⟩ = some (.exit 0, ⟨[(0, .nilS), (1, .nilS), (5, I 0)], []⟩) := by
    rw [loop_eq pr 54 0 _ Try.f54 fn_54 _ rfl _ ann_54 _ rfl]
    simp -implicitDefEqProofs only [Int.lt_irrefl, go_sem, Nat.reduceAdd, Nat.reduceSub, Nat.reduceMul, Nat.reduceMod, Nat.reduceLT, Nat.reduceLeDiff, Nat.reduceEqDiff, Nat.reduceBEq, Nat.reduceDiv, Int.reduceLT, Int.reduceLE, Int.reduceToNat, Int.reduceNeg, Int.reduceEq, ↓reduceIte, reduceCtorEq, ↓reduceDIte, Bool.false_eq_true, Bool.true_eq_false, ne_eq, not_true_eq_false, not_false_eq_true, Bool.true_or, Bool.false_or, Bool.or_true, Bool.or_false, Bool.true_and, Bool.false_and, Bool.and_true, Bool.and_false, Bool.not_true, Bool.not_false, Bool.not_eq_false', Bool.not_eq_true', and_true, true_and, and_false, false_and, or_true, true_or, or_false, false_or, and_self, or_self, decide_eq_true_eq, decide_true, decide_false, decide_eq_false_iff_not, ite_not, if_true, if_false, eq_self]
  rw [call_eq pr 54 _ _ Try.f54 fn_54 _ rfl _ ann_54 rfl]
  simp -implicitDefEqProofs only [h, go_sem, Nat.reduceAdd, Nat.reduceSub, Nat.reduceMul, Nat.reduceMod, Nat.reduceLT, Nat.reduceLeDiff, Nat.reduceEqDiff, Nat.reduceBEq, Nat.reduceDiv, Int.reduceLT, Int.reduceLE, Int.reduceToNat, Int.reduceNeg, Int.reduceEq, ↓reduceIte, reduceCtorEq, ↓reduceDIte, Bool.false_eq_true, Bool.true_eq_false, ne_eq, not_true_eq_false, not_false_eq_true, Bool.true_or, Bool.false_or, Bool.or_true, Bool.or_false, Bool.true_and, Bool.false_and, Bool.and_true, Bool.and_false, Bool.not_true, Bool.not_false, Bool.not_eq_false', Bool.not_eq_true', and_true, true_and, and_false, false_and, or_true, true_or, or_false, false_or, and_self, or_self, decide_eq_true_eq, decide_true, decide_false, decide_eq_false_iff_not, ite_not, if_true, if_false, eq_self]
theorem eqe_Int64SS : callOf pr 54 [.nilS, .d (.slice (.slice (.int .i64))) ([] : List (Ty.Den (.slice (.int .i64))))] [] = some (B true, []) := by
  have h : loopOf pr 54 0 ⟨[(0, .nilS), (1, .d (.slice (.slice (.int .i64))) ([] : List (Ty.Den (.slice (.int .i64))))), (5, I 0)], []⟩ = some (.exit 0, ⟨[(0, .nilS), (1, .d (.slice (.slice (.int .i64))) ([] : List (Ty.Den (.slice (.int .i64))))), (5, I 0)], []⟩) := by
    rw [loop_eq pr 54 0 _ Try.f54 fn_54 _ rfl _ ann_54 _ rfl]
    simp -implicitDefEqProofs only [Int.lt_irrefl, Int.natCast_zero, go_sem, Nat.reduceAdd, Nat.reduceSub, Nat.reduceMul, Nat.reduceMod, Nat.reduceLT, Nat.reduceLeDiff, Nat.reduceEqDiff, Nat.reduceBEq, Nat.reduceDiv, Int.reduceLT, Int.reduceLE, Int.reduceToNat, Int.reduceNeg, Int.reduceEq, ↓reduceIte, reduceCtorEq, ↓reduceDIte, Bool.false_eq_true, Bool.true_eq_false, ne_eq, not_true_eq_false, not_false_eq_true, Bool.true_or, Bool.false_or, Bool.or_true, Bool.or_false, Bool.true_and, Bool.false_and, Bool.and_true, Bool.and_false, Bool.not_true, Bool.not_false, Bool.not_eq_false', Bool.not_eq_true', and_true, true_and, and_false, false_and, or_true, true_or, or_false, false_or, and_self, or_self, decide_eq_true_eq, decide_true, decide_false, decide_eq_false_iff_not, ite_not, if_true, if_false, eq_self]
  rw [call_eq pr 54 _ _ Try.f54 fn_54 _ rfl _ ann_54 rfl]
  simp -implicitDefEqProofs only [h, Int.natCast_zero, go_sem, Nat.reduceAdd, Nat.reduceSub, Nat.reduceMul, Nat.reduceMod, Nat.reduceLT, Nat.reduceLeDiff, Nat.reduceEqDiff, Nat.reduceBEq, Nat.reduceDiv, Int.reduceLT, Int.reduceLE, Int.reduceToNat, Int.reduceNeg, Int.reduceEq, ↓reduceIte, reduceCtorEq, ↓reduceDIte, Bool.false_eq_true, Bool.true_eq_false, ne_eq, not_true_eq_false, not_false_eq_true, Bool.true_or, Bool.false_or, Bool.or_true, Bool.or_false, Bool.true_and, Bool.false_and, Bool.and_true, Bool.and_false, Bool.not_true, Bool.not_false, Bool.not_eq_false', Bool.not_eq_true', and_true, true_and, and_false, false_and, or_true, true_or, or_false, false_or, and_self, or_self, decide_eq_true_eq, decide_true, decide_false, decide_eq_false_iff_not, ite_not, if_true, if_false, eq_self]

theorem eq_Access (x : Ty.Den (.agg (.cons (.int .i64) (.cons (.int .i64) .nil)))) : callOf pr 89 [.agg [I x.1, I x.2.1], .agg [I x.1, I x.2.1]] [] = some (B true, []) := by
  rw [call_eq pr 89 _ _ Try.f89 fn_89 _ rfl _ ann_89 rfl]
  simp -implicitDefEqProofs only [BEq.rfl, beq_self_eq_true, decide_true, go_sem, Nat.reduceAdd, Nat.reduceSub, Nat.reduceMul, Nat.reduceMod, Nat.reduceLT, Nat.reduceLeDiff, Nat.reduceEqDiff, Nat.reduceBEq, Nat.reduceDiv, Int.reduceLT, Int.reduceLE, Int.reduceToNat, Int.reduceNeg, Int.reduceEq, ↓reduceIte, reduceCtorEq, ↓reduceDIte, Bool.false_eq_true, Bool.true_eq_false, ne_eq, not_true_eq_false, not_false_eq_true, Bool.true_or, Bool.false_or, Bool.or_true, Bool.or_false, Bool.true_and, Bool.false_and, Bool.and_true, Bool.and_false, Bool.not_true, Bool.not_false, Bool.not_eq_false', Bool.not_eq_true', and_true, true_and, and_false, false_and, or_true, true_or, or_false, false_or, and_self, or_self, decide_eq_true_eq, decide_true, decide_false, decide_eq_false_iff_not, ite_not, if_true, if_false, eq_self]

theorem eql_AccessS (xs : List (Ty.Den (.agg (.cons (.int .i64) (.cons (.int .i64) .nil))))) : ∀ (done : List (Ty.Den (.agg (.cons (.int .i64) (.cons (.int .i64) .nil))))), done.length + xs.length ≤ wide → (∀ x ∈ xs, Bd wide (.agg (.cons (.int .i64) (.cons (.int .i64) .nil))) x) →
    loopOf pr 45 0 ⟨[(0, .d (.slice (.agg (.cons (.int .i64) (.cons (.int .i64) .nil)))) (done ++ xs)), (1, .d (.slice (.agg (.cons (.int .i64) (.cons (.int .i64) .nil)))) (done ++ xs)), (5, I done.length)], []⟩ = some (.exit 0, ⟨[(0, .d (.slice (.agg (.cons (.int .i64) (.cons (.int .i64) .nil)))) (done ++ xs)), (1, .d (.slice (.agg (.cons (.int .i64) (.cons (.int .i64) .nil)))) (done ++ xs)), (5, I ((done.length + xs.length : Nat) : Int))], []⟩) := by
  induction xs with
  | nil =>
    intro done hb hx
    rw [loop_eq pr 45 0 _ Try.f45 fn_45 _ rfl _ ann_45 _ rfl]
    simp -implicitDefEqProofs only [Int.lt_irrefl, List.append_nil, Nat.add_zero, go_sem, Nat.reduceAdd, Nat.reduceSub, Nat.reduceMul, Nat.reduceMod, Nat.reduceLT, Nat.reduceLeDiff, Nat.reduceEqDiff, Nat.reduceBEq, Nat.reduceDiv, Int.reduceLT, Int.reduceLE, Int.reduceToNat, Int.reduceNeg, Int.reduceEq, ↓reduceIte, reduceCtorEq, ↓reduceDIte, Bool.false_eq_true, Bool.true_eq_false, ne_eq, not_true_eq_false, not_false_eq_true, Bool.true_or, Bool.false_or, Bool.or_true, Bool.or_false, Bool.true_and, Bool.false_and, Bool.and_true, Bool.and_false, Bool.not_true, Bool.not_false, Bool.not_eq_false', Bool.not_eq_true', and_true, true_and, and_false, false_and, or_true, true_or, or_false, false_or, and_self, or_self, decide_eq_true_eq, decide_true, decide_false, decide_eq_false_iff_not, ite_not, if_true, if_false, eq_self]
  | cons x xs ih =>
    intro done hb hx
    simp only [List.length_cons, wide] at hb
    have hn : IntKind.i64.wrap ((done.length : Int) + 1) = ((done.length + 1 : Nat) : Int) := by rw [wrap_i] <;> omega
    have ih := ih (done ++ [x]) (by simp only [List.length_append, List.length_cons, List.length_nil, wide]; omega) (fun y hy => hx y (by simp [hy]))
    have e1 : (done ++ [x]).length = done.length + 1 := by simp
    have e2 : done.length + 1 + xs.length = done.length + (x :: xs).length := by simp; omega
    rw [app_one, e1, e2] at ih
    rw [loop_eq pr 45 0 _ Try.f45 fn_45 _ rfl _ ann_45 _ rfl]
    simp -implicitDefEqProofs only [getD_app, set_app, lt_app, ltn_app, zero_le_cast, Int.toNat_natCast, hn, BEq.rfl, beq_self_eq_true, decide_true, eq_Access x, go_sem, Nat.reduceAdd, Nat.reduceSub, Nat.reduceMul, Nat.reduceMod, Nat.reduceLT, Nat.reduceLeDiff, Nat.reduceEqDiff, Nat.reduceBEq, Nat.reduceDiv, Int.reduceLT, Int.reduceLE, Int.reduceToNat, Int.reduceNeg, Int.reduceEq, ↓reduceIte, reduceCtorEq, ↓reduceDIte, Bool.false_eq_true, Bool.true_eq_false, ne_eq, not_true_eq_false, not_false_eq_true, Bool.true_or, Bool.false_or, Bool.or_true, Bool.or_false, Bool.true_and, Bool.false_and, Bool.and_true, Bool.and_false, Bool.not_true, Bool.not_false, Bool.not_eq_false', Bool.not_eq_true', and_true, true_and, and_false, false_and, or_true, true_or, or_false, false_or, and_self, or_self, decide_eq_true_eq, decide_true, decide_false, decide_eq_false_iff_not, ite_not, if_true, if_false, eq_self]
    exact ih
theorem eq_AccessS (xs : List (Ty.Den (.agg (.cons (.int .i64) (.cons (.int .i64) .nil))))) (ha : Bd wide (.slice (.agg (.cons (.int .i64) (.cons (.int .i64) .nil)))) xs) : callOf pr 45 [.d (.slice (.agg (.cons (.int .i64) (.cons (.int .i64) .nil)))) xs, .d (.slice (.agg (.cons (.int .i64) (.cons (.int .i64) .nil)))) xs] [] = some (B true, []) := by
  have h := eql_AccessS xs [] (by rw [List.length_nil, Nat.zero_add]; exact ha.1) ha.2
  simp only [List.nil_append, List.length_nil] at h
  have h : loopOf pr 45 0 ⟨[(0, .d (.slice (.agg (.cons (.int .i64) (.cons (.int .i64) .nil)))) xs), (1, .d (.slice (.agg (.cons (.int .i64) (.cons (.int .i64) .nil)))) xs), (5, I 0)], []⟩ = _ := h
  rw [call_eq pr 45 _ _ Try.f45 fn_45 _ rfl _ ann_45 rfl]
  simp -implicitDefEqProofs only [h, go_sem, Nat.reduceAdd, Nat.reduceSub, Nat.reduceMul, Nat.reduceMod, Nat.reduceLT, Nat.reduceLeDiff, Nat.reduceEqDiff, Nat.reduceBEq, Nat.reduceDiv, Int.reduceLT, Int.reduceLE, Int.reduceToNat, Int.reduceNeg, Int.reduceEq, ↓reduceIte, reduceCtorEq, ↓reduceDIte, Bool.false_eq_true, Bool.true_eq_false, ne_eq, not_true_eq_false, not_false_eq_true, Bool.true_or, Bool.false_or, Bool.or_true, Bool.or_false, Bool.true_and, Bool.false_and, Bool.and_true, Bool.and_false, Bool.not_true, Bool.not_false, Bool.not_eq_false', Bool.not_eq_true', and_true, true_and, and_false, false_and, or_true, true_or, or_false, false_or, and_self, or_self, decide_eq_true_eq, decide_true, decide_false, decide_eq_false_iff_not, ite_not, if_true, if_false, eq_self]
theorem eqn_AccessS : callOf pr 45 [.nilS, .nilS] [] = some (B true, []) := by
  have h : loopOf pr 45 0 ⟨[(0, .nilS), (1, .nilS), (5, I 0)], []⟩ = some (.exit 0, ⟨[(0, .nilS), (1, .nilS), (5, I 0)], []⟩) := by
    rw [loop_eq pr 45 0 _ Try.f45 fn_45 _ rfl _ ann_45 _ rfl]
    simp -implicitDefEqProofs only [Int.lt_irrefl, go_sem, Nat.reduceAdd, Nat.reduceSub, Nat.reduceMul, Nat.reduceMod, Nat.reduceLT, Nat.reduceLeDiff, Nat.reduceEqDiff, Nat.reduceBEq, Nat.reduceDiv, Int.reduceLT, Int.reduceLE, Int.reduceToNat, Int.reduceNeg, Int.reduceEq, ↓reduceIte, reduceCtorEq, ↓reduceDIte, Bool.false_eq_true, Bool.true_eq_false, ne_eq, not_true_eq_false, not_false_eq_true, Bool.true_or, Bool.false_or, Bool.or_true, Bool.or_false, Bool.true_and, Bool.false_and, Bool.and_true, Bool.and_false, Bool.not_true, Bool.not_false, Bool.not_eq_false', Bool.not_eq_true', and_true, true_and, and_false, false_and, or_true, true_or, or_false, false_or, and_self, or_self, decide_eq_true_eq, decide_true, decide_false, decide_eq_false_iff_not, ite_not, if_true, if_false, eq_self]
  rw [call_eq pr 45 _ _ Try.f45 fn_45 _ rfl _ ann_45 rfl]
  simp -implicitDefEqProofs only [h, go_sem, Nat.reduceAdd, Nat.reduceSub, Nat.reduceMul, Nat.reduceMod, Nat.reduceLT, Nat.reduceLeDiff, Nat.reduceEqDiff, Nat.reduceBEq, Nat.reduceDiv, Int.reduceLT, Int.reduceLE, Int.reduceToNat, Int.reduceNeg, Int.reduceEq, ↓reduceIte, reduceCtorEq, ↓reduceDIte, Bool.false_eq_true, Bool.true_eq_false, ne_eq, not_true_eq_false, not_false_eq_true, Bool.true_or, Bool.false_or, Bool.or_true, Bool.or_false, Bool.true_and, Bool.false_and, Bool.and_true, Bool.and_false, Bool.not_true, Bool.not_false, Bool.not_eq_false', Bool.not_eq_true', and_true, true_and, and_false, false_and, or_true, true_or, or_false, false_or, and_self, or_self, decide_eq_true_eq, decide_true, decide_false, decide_eq_false_iff_not, ite_not, if_true, if_false, eq_self]
theorem eqe_AccessS : callOf pr 45 [.nilS, .d (.slice (.agg (.cons (.int .i64) (.cons (.int .i64) .nil)))) ([] : List (Ty.Den (.agg (.cons (.int .i64) (.cons (.int .i64) .nil)))))] [] = some (B true, []) := by
  have h : loopOf pr 45 0 ⟨[(0, .nilS), (1, .d (.slice (.agg (.cons (.int .i64) (.cons (.int .i64) .nil)))) ([] : List (Ty.Den (.agg (.cons (.int .i64) (.cons (.int .i64) .nil)))))), (5, I 0)], []⟩ = some (.exit 0, ⟨[(0, .nilS), (1, .d (.slice (.agg (.cons (.int .i64) (.cons (.int .i64) .nil)))) ([] : List (Ty.Den (.agg (.cons (.int .i64) (.cons (.int .i64) .nil)))))), (5, I 0)], []⟩) := by
    rw [loop_eq pr 45 0 _ Try.f45 fn_45 _ rfl _ ann_45 _ rfl]
    simp -implicitDefEqProofs only [Int.lt_irrefl, Int.natCast_zero, go_sem, Nat.reduceAdd, Nat.reduceSub, Nat.reduceMul, Nat.reduceMod, Nat.reduceLT, Nat.reduceLeDiff, Nat.reduceEqDiff, Nat.reduceBEq, Nat.reduceDiv, Int.reduceLT, Int.reduceLE, Int.reduceToNat, Int.reduceNeg, Int.reduceEq, ↓reduceIte, reduceCtorEq, ↓reduceDIte, Bool.false_eq_true, Bool.true_eq_false, ne_eq, not_true_eq_false, not_false_eq_true, Bool.true_or, Bool.false_or, Bool.or_true, Bool.or_false, Bool.true_and, Bool.false_and, Bool.and_true, Bool.and_false, Bool.not_true, Bool.not_false, Bool.not_eq_false', Bool.not_eq_true', and_true, true_and, and_false, false_and, or_true, true_or, or_false, false_or, and_self, or_self, decide_eq_true_eq, decide_true, decide_false, decide_eq_false_iff_not, ite_not, if_true, if_false, eq_self]
  rw [call_eq pr 45 _ _ Try.f45 fn_45 _ rfl _ ann_45 rfl]
  simp -implicitDefEqProofs only [h, Int.natCast_zero, go_sem, Nat.reduceAdd, Nat.reduceSub, Nat.reduceMul, Nat.reduceMod, Nat.reduceLT, Nat.reduceLeDiff, Nat.reduceEqDiff, Nat.reduceBEq, Nat.reduceDiv, Int.reduceLT, Int.reduceLE, Int.reduceToNat, Int.reduceNeg, Int.reduceEq, ↓reduceIte, reduceCtorEq, ↓reduceDIte, Bool.false_eq_true, Bool.true_eq_false, ne_eq, not_true_eq_false, not_false_eq_true, Bool.true_or, Bool.false_or, Bool.or_true, Bool.or_false, Bool.true_and, Bool.false_and, Bool.and_true, Bool.and_false, Bool.not_true, Bool.not_false, Bool.not_eq_false', Bool.not_eq_true', and_true, true_and, and_false, false_and, or_true, true_or, or_false, false_or, and_self, or_self, decide_eq_true_eq, decide_true, decide_false, decide_eq_false_iff_not, ite_not, if_true, if_false, eq_self]

theorem eq_Policy (x : Ty.Den (.agg (.cons (.slice (.slice (.int .i64))) (.cons (.slice (.int .i64)) .nil)))) (ha : Bd wide (.agg (.cons (.slice (.slice (.int .i64))) (.cons (.slice (.int .i64)) .nil))) x) : callOf pr 19 [.agg [.d (.slice (.slice (.int .i64))) x.1, .d (.slice (.int .i64)) x.2.1], .agg [.d (.slice (.slice (.int .i64))) x.1, .d (.slice (.int .i64)) x.2.1]] [] = some (B true, []) := by
  rw [call_eq pr 19 _ _ Try.f19 fn_19 _ rfl _ ann_19 rfl]
  simp -implicitDefEqProofs only [BEq.rfl, beq_self_eq_true, decide_true, eq_Int64SS x.1 ha.1, eq_Int64S x.2.1 ha.2.1, go_sem, Nat.reduceAdd, Nat.reduceSub, Nat.reduceMul, Nat.reduceMod, Nat.reduceLT, Nat.reduceLeDiff, Nat.reduceEqDiff, Nat.reduceBEq, Nat.reduceDiv, Int.reduceLT, Int.reduceLE, Int.reduceToNat, Int.reduceNeg, Int.reduceEq, ↓reduceIte, reduceCtorEq, ↓reduceDIte, Bool.false_eq_true, Bool.true_eq_false, ne_eq, not_true_eq_false, not_false_eq_true, Bool.true_or, Bool.false_or, Bool.or_true, Bool.or_false, Bool.true_and, Bool.false_and, Bool.and_true, Bool.and_false, Bool.not_true, Bool.not_false, Bool.not_eq_false', Bool.not_eq_true', and_true, true_and, and_false, false_and, or_true, true_or, or_false, false_or, and_self, or_self, decide_eq_true_eq, decide_true, decide_false, decide_eq_false_iff_not, ite_not, if_true, if_false, eq_self]
theorem eqn_Policy : callOf pr 19 [.agg [.nilS, .nilS], .agg [.nilS, .nilS]] [] = some (B true, []) := by
  rw [call_eq pr 19 _ _ Try.f19 fn_19 _ rfl _ ann_19 rfl]
  simp -implicitDefEqProofs only [BEq.rfl, beq_self_eq_true, decide_true, eqn_Int64SS, eqn_Int64S, go_sem, Nat.reduceAdd, Nat.reduceSub, Nat.reduceMul, Nat.reduceMod, Nat.reduceLT, Nat.reduceLeDiff, Nat.reduceEqDiff, Nat.reduceBEq, Nat.reduceDiv, Int.reduceLT, Int.reduceLE, Int.reduceToNat, Int.reduceNeg, Int.reduceEq, ↓reduceIte, reduceCtorEq, ↓reduceDIte, Bool.false_eq_true, Bool.true_eq_false, ne_eq, not_true_eq_false, not_false_eq_true, Bool.true_or, Bool.false_or, Bool.or_true, Bool.or_false, Bool.true_and, Bool.false_and, Bool.and_true, Bool.and_false, Bool.not_true, Bool.not_false, Bool.not_eq_false', Bool.not_eq_true', and_true, true_and, and_false, false_and, or_true, true_or, or_false, false_or, and_self, or_self, decide_eq_true_eq, decide_true, decide_false, decide_eq_false_iff_not, ite_not, if_true, if_false, eq_self]

theorem eq_Bench (x : Ty.Den (.agg (.cons (.slice (.agg (.cons (.int .i64) (.cons (.int .i64) .nil)))) (.cons (.agg (.cons (.slice (.slice (.int .i64))) (.cons (.slice (.int .i64)) .nil))) .nil)))) (ha : Bd wide (.agg (.cons (.slice (.agg (.cons (.int .i64) (.cons (.int .i64) .nil)))) (.cons (.agg (.cons (.slice (.slice (.int .i64))) (.cons (.slice (.int .i64)) .nil))) .nil))) x) : callOf pr 13 [.agg [.d (.slice (.agg (.cons (.int .i64) (.cons (.int .i64) .nil)))) x.1, .d (.slice (.slice (.int .i64))) x.2.1.1, .d (.slice (.int .i64)) x.2.1.2.1], .agg [.d (.slice (.agg (.cons (.int .i64) (.cons (.int .i64) .nil)))) x.1, .d (.slice (.slice (.int .i64))) x.2.1.1, .d (.slice (.int .i64)) x.2.1.2.1]] [] = some (B true, []) := by
  rw [call_eq pr 13 _ _ Try.f13 fn_13 _ rfl _ ann_13 rfl]
  simp -implicitDefEqProofs only [BEq.rfl, beq_self_eq_true, decide_true, eq_AccessS x.1 ha.1, eq_Policy x.2.1 ha.2.1, go_sem, Nat.reduceAdd, Nat.reduceSub, Nat.reduceMul, Nat.reduceMod, Nat.reduceLT, Nat.reduceLeDiff, Nat.reduceEqDiff, Nat.reduceBEq, Nat.reduceDiv, Int.reduceLT, Int.reduceLE, Int.reduceToNat, Int.reduceNeg, Int.reduceEq, ↓reduceIte, reduceCtorEq, ↓reduceDIte, Bool.false_eq_true, Bool.true_eq_false, ne_eq, not_true_eq_false, not_false_eq_true, Bool.true_or, Bool.false_or, Bool.or_true, Bool.or_false, Bool.true_and, Bool.false_and, Bool.and_true, Bool.and_false, Bool.not_true, Bool.not_false, Bool.not_eq_false', Bool.not_eq_true', and_true, true_and, and_false, false_and, or_true, true_or, or_false, false_or, and_self, or_self, decide_eq_true_eq, decide_true, decide_false, decide_eq_false_iff_not, ite_not, if_true, if_false, eq_self]
theorem eqn_Bench : callOf pr 13 [.agg [.nilS, .nilS, .nilS], .agg [.nilS, .nilS, .nilS]] [] = some (B true, []) := by
  rw [call_eq pr 13 _ _ Try.f13 fn_13 _ rfl _ ann_13 rfl]
  simp -implicitDefEqProofs only [BEq.rfl, beq_self_eq_true, decide_true, eqn_AccessS, eqn_Policy, go_sem, Nat.reduceAdd, Nat.reduceSub, Nat.reduceMul, Nat.reduceMod, Nat.reduceLT, Nat.reduceLeDiff, Nat.reduceEqDiff, Nat.reduceBEq, Nat.reduceDiv, Int.reduceLT, Int.reduceLE, Int.reduceToNat, Int.reduceNeg, Int.reduceEq, ↓reduceIte, reduceCtorEq, ↓reduceDIte, Bool.false_eq_true, Bool.true_eq_false, ne_eq, not_true_eq_false, not_false_eq_true, Bool.true_or, Bool.false_or, Bool.or_true, Bool.or_false, Bool.true_and, Bool.false_and, Bool.and_true, Bool.and_false, Bool.not_true, Bool.not_false, Bool.not_eq_false', Bool.not_eq_true', and_true, true_and, and_false, false_and, or_true, true_or, or_false, false_or, and_self, or_self, decide_eq_true_eq, decide_true, decide_false, decide_eq_false_iff_not, ite_not, if_true, if_false, eq_self]

theorem markl_Int64S (xs : List (Ty.Den (.int .i64))) : ∀ (done : List (Ty.Den (.int .i64))) (m : Int), 0 ≤ m → m + cnt (.slice (.int .i64)) xs ≤ wide → done.length + xs.length ≤ wide →
    loopOf pr 24 0 ⟨[(0, .os (.t 1000000)), (1, I m), (5, I done.length)], [(1000000, .arr false false (.int .i64) (done ++ xs))]⟩ = some (.exit 0, ⟨[(0, .os (.t 1000000)), (1, I (markD (.slice (.int .i64)) m xs).2), (5, I ((done.length + xs.length : Nat) : Int))], [(1000000, .arr false false (.int .i64) (done ++ (markD (.slice (.int .i64)) m xs).1))]⟩) := by
  induction xs with
  | nil =>
    intro done m h0 h1 hb
    rw [loop_eq pr 24 0 _ Try.f24 fn_24 _ rfl _ ann_24 _ rfl]
    simp only [markD_slice, markS_nil]
    simp -implicitDefEqProofs only [Int.lt_irrefl, List.append_nil, Nat.add_zero, go_sem, Nat.reduceAdd, Nat.reduceSub, Nat.reduceMul, Nat.reduceMod, Nat.reduceLT, Nat.reduceLeDiff, Nat.reduceEqDiff, Nat.reduceBEq, Nat.reduceDiv, Int.reduceLT, Int.reduceLE, Int.reduceToNat, Int.reduceNeg, Int.reduceEq, ↓reduceIte, reduceCtorEq, ↓reduceDIte, Bool.false_eq_true, Bool.true_eq_false, ne_eq, not_true_eq_false, not_false_eq_true, Bool.true_or, Bool.false_or, Bool.or_true, Bool.or_false, Bool.true_and, Bool.false_and, Bool.and_true, Bool.and_false, Bool.not_true, Bool.not_false, Bool.not_eq_false', Bool.not_eq_true', and_true, true_and, and_false, false_and, or_true, true_or, or_false, false_or, and_self, or_self, decide_eq_true_eq, decide_true, decide_false, decide_eq_false_iff_not, ite_not, if_true, if_false, eq_self]
  | cons x xs ih =>
    intro done m h0 h1 hb
    simp only [List.length_cons, wide] at hb
    have hn : IntKind.i64.wrap ((done.length : Int) + 1) = ((done.length + 1 : Nat) : Int) := by rw [wrap_i] <;> omega
    have hc : cnt (.slice (.int .i64)) (x :: xs) = 1 + cnt (.slice (.int .i64)) xs := by simp [cnt, List.map_cons, List.sum_cons]
    rw [hc] at h1
    simp only [wide] at h1
    have hw0 : IntKind.i64.wrap (m + 1) = m + 1 := by rw [wrap_i] <;> omega
    have ih := ih (done ++ [m]) (m + 1) (by omega) (by simp only [wide]; omega) (by simp only [List.length_append, List.length_cons, List.length_nil, wide]; omega)
    have e1 : (done ++ [m]).length = done.length + 1 := by simp
    have e2 : done.length + 1 + xs.length = done.length + (x :: xs).length := by simp; omega
    rw [app_one, app_one, e1, e2] at ih
    rw [loop_eq pr 24 0 _ Try.f24 fn_24 _ rfl _ ann_24 _ rfl]
    simp -implicitDefEqProofs only [getD_app, set_app, lt_app, ltn_app, zero_le_cast, Int.toNat_natCast, hn, hw0, go_sem, Nat.reduceAdd, Nat.reduceSub, Nat.reduceMul, Nat.reduceMod, Nat.reduceLT, Nat.reduceLeDiff, Nat.reduceEqDiff, Nat.reduceBEq, Nat.reduceDiv, Int.reduceLT, Int.reduceLE, Int.reduceToNat, Int.reduceNeg, Int.reduceEq, ↓reduceIte, reduceCtorEq, ↓reduceDIte, Bool.false_eq_true, Bool.true_eq_false, ne_eq, not_true_eq_false, not_false_eq_true, Bool.true_or, Bool.false_or, Bool.or_true, Bool.or_false, Bool.true_and, Bool.false_and, Bool.and_true, Bool.and_false, Bool.not_true, Bool.not_false, Bool.not_eq_false', Bool.not_eq_true', and_true, true_and, and_false, false_and, or_true, true_or, or_false, false_or, and_self, or_self, decide_eq_true_eq, decide_true, decide_false, decide_eq_false_iff_not, ite_not, if_true, if_false, eq_self]
    exact ih
theorem mark_Int64S (xs : List (Ty.Den (.int .i64))) (m : Int) (h0 : 0 ≤ m) (h1 : m + cnt (.slice (.int .i64)) xs ≤ wide) (hb : xs.length ≤ wide) : callOf pr 24 [.os (.t 1000000), I m] [(1000000, .arr false false (.int .i64) xs)] = some (I (markD (.slice (.int .i64)) m xs).2, [(1000000, .arr false false (.int .i64) (markD (.slice (.int .i64)) m xs).1)]) := by
  have h := markl_Int64S xs [] m h0 h1 (by rw [List.length_nil, Nat.zero_add]; exact hb)
  simp only [List.nil_append, List.length_nil] at h
  have h : loopOf pr 24 0 ⟨[(0, .os (.t 1000000)), (1, I m), (5, I 0)], [(1000000, .arr false false (.int .i64) xs)]⟩ = _ := h
  rw [call_eq pr 24 _ _ Try.f24 fn_24 _ rfl _ ann_24 rfl]
  simp -implicitDefEqProofs only [h, go_sem, Nat.reduceAdd, Nat.reduceSub, Nat.reduceMul, Nat.reduceMod, Nat.reduceLT, Nat.reduceLeDiff, Nat.reduceEqDiff, Nat.reduceBEq, Nat.reduceDiv, Int.reduceLT, Int.reduceLE, Int.reduceToNat, Int.reduceNeg, Int.reduceEq, ↓reduceIte, reduceCtorEq, ↓reduceDIte, Bool.false_eq_true, Bool.true_eq_false, ne_eq, not_true_eq_false, not_false_eq_true, Bool.true_or, Bool.false_or, Bool.or_true, Bool.or_false, Bool.true_and, Bool.false_and, Bool.and_true, Bool.and_false, Bool.not_true, Bool.not_false, Bool.not_eq_false', Bool.not_eq_true', and_true, true_and, and_false, false_and, or_true, true_or, or_false, false_or, and_self, or_self, decide_eq_true_eq, decide_true, decide_false, decide_eq_false_iff_not, ite_not, if_true, if_false, eq_self]
theorem markn_Int64S (m : Int) : callOf pr 24 [.nilS, I m] [] = some (I m, []) := by
  have h : loopOf pr 24 0 ⟨[(0, .nilS), (1, I m), (5, I 0)], []⟩ = some (.exit 0, ⟨[(0, .nilS), (1, I m), (5, I 0)], []⟩) := by
    rw [loop_eq pr 24 0 _ Try.f24 fn_24 _ rfl _ ann_24 _ rfl]
    simp -implicitDefEqProofs only [Int.lt_irrefl, go_sem, Nat.reduceAdd, Nat.reduceSub, Nat.reduceMul, Nat.reduceMod, Nat.reduceLT, Nat.reduceLeDiff, Nat.reduceEqDiff, Nat.reduceBEq, Nat.reduceDiv, Int.reduceLT, Int.reduceLE, Int.reduceToNat, Int.reduceNeg, Int.reduceEq, ↓reduceIte, reduceCtorEq, ↓reduceDIte, Bool.false_eq_true, Bool.true_eq_false, ne_eq, not_true_eq_false, not_false_eq_true, Bool.true_or, Bool.false_or, Bool.or_true, Bool.or_false, Bool.true_and, Bool.false_and, Bool.and_true, Bool.and_false, Bool.not_true, Bool.not_false, Bool.not_eq_false', Bool.not_eq_true', and_true, true_and, and_false, false_and, or_true, true_or, or_false, false_or, and_self, or_self, decide_eq_true_eq, decide_true, decide_false, decide_eq_false_iff_not, ite_not, if_true, if_false, eq_self]
  rw [call_eq pr 24 _ _ Try.f24 fn_24 _ rfl _ ann_24 rfl]
  simp -implicitDefEqProofs only [h, go_sem, Nat.reduceAdd, Nat.reduceSub, Nat.reduceMul, Nat.reduceMod, Nat.reduceLT, Nat.reduceLeDiff, Nat.reduceEqDiff, Nat.reduceBEq, Nat.reduceDiv, Int.reduceLT, Int.reduceLE, Int.reduceToNat, Int.reduceNeg, Int.reduceEq, ↓reduceIte, reduceCtorEq, ↓reduceDIte, Bool.false_eq_true, Bool.true_eq_false, ne_eq, not_true_eq_false, not_false_eq_true, Bool.true_or, Bool.false_or, Bool.or_true, Bool.or_false, Bool.true_and, Bool.false_and, Bool.and_true, Bool.and_false, Bool.not_true, Bool.not_false, Bool.not_eq_false', Bool.not_eq_true', and_true, true_and, and_false, false_and, or_true, true_or, or_false, false_or, and_self, or_self, decide_eq_true_eq, decide_true, decide_false, decide_eq_false_iff_not, ite_not, if_true, if_false, eq_self]

theorem markl_Int64SS (xs : List (Ty.Den (.slice (.int .i64)))) : ∀ (done : List (Ty.Den (.slice (.int .i64)))) (m : Int), 0 ≤ m → m + cnt (.slice (.slice (.int .i64))) xs ≤ wide → done.length + xs.length ≤ wide → (∀ x ∈ xs, Bd wide (.slice (.int .i64)) x) →
    loopOf pr 58 0 ⟨[(0, .os (.t 1000000)), (1, I m), (5, I done.length)], [(1000000, .arr false true (.slice (.int .i64)) (done ++ xs))]⟩ = some (.exit 0, ⟨[(0, .os (.t 1000000)), (1, I (markD (.slice (.slice (.int .i64))) m xs).2), (5, I ((done.length + xs.length : Nat) : Int))], [(1000000, .arr false true (.slice (.int .i64)) (done ++ (markD (.slice (.slice (.int .i64))) m xs).1))]⟩) := by
  induction xs with
  | nil =>
    intro done m h0 h1 hb hx
    rw [loop_eq pr 58 0 _ Try.f58 fn_58 _ rfl _ ann_58 _ rfl]
    simp only [markD_slice, markS_nil]
    simp -implicitDefEqProofs only [Int.lt_irrefl, List.append_nil, Nat.add_zero, go_sem, Nat.reduceAdd, Nat.reduceSub, Nat.reduceMul, Nat.reduceMod, Nat.reduceLT, Nat.reduceLeDiff, Nat.reduceEqDiff, Nat.reduceBEq, Nat.reduceDiv, Int.reduceLT, Int.reduceLE, Int.reduceToNat, Int.reduceNeg, Int.reduceEq, ↓reduceIte, reduceCtorEq, ↓reduceDIte, Bool.false_eq_true, Bool.true_eq_false, ne_eq, not_true_eq_false, not_false_eq_true, Bool.true_or, Bool.false_or, Bool.or_true, Bool.or_false, Bool.true_and, Bool.false_and, Bool.and_true, Bool.and_false, Bool.not_true, Bool.not_false, Bool.not_eq_false', Bool.not_eq_true', and_true, true_and, and_false, false_and, or_true, true_or, or_false, false_or, and_self, or_self, decide_eq_true_eq, decide_true, decide_false, decide_eq_false_iff_not, ite_not, if_true, if_false, eq_self]
  | cons x xs ih =>
    intro done m h0 h1 hb hx
    simp only [List.length_cons, wide] at hb
    have hn : IntKind.i64.wrap ((done.length : Int) + 1) = ((done.length + 1 : Nat) : Int) := by rw [wrap_i] <;> omega
    have hc : cnt (.slice (.slice (.int .i64))) (x :: xs) = cnt (.slice (.int .i64)) x + cnt (.slice (.slice (.int .i64))) xs := by simp [cnt, List.map_cons, List.sum_cons]
    rw [hc] at h1
    simp only [wide] at h1
    have hend := markD_end (.slice (.int .i64)) m x
    have hm := mark_Int64S x m h0 (by simp only [wide]; omega) (by have := (hx x (by simp)).1; exact this)
    have ih := ih (done ++ [(markD (.slice (.int .i64)) m x).1]) (markD (.slice (.int .i64)) m x).2 (by omega) (by rw [hend]; simp only [wide]; omega) (by simp only [List.length_append, List.length_cons, List.length_nil, wide]; omega) (fun y hy => hx y (by simp [hy]))
    have e1 : (done ++ [(markD (.slice (.int .i64)) m x).1]).length = done.length + 1 := by simp
    have e2 : done.length + 1 + xs.length = done.length + (x :: xs).length := by simp; omega
    rw [app_one, app_one, e1, e2] at ih
    rw [loop_eq pr 58 0 _ Try.f58 fn_58 _ rfl _ ann_58 _ rfl]
    simp -implicitDefEqProofs only [getD_app, set_app, lt_app, ltn_app, zero_le_cast, Int.toNat_natCast, hn, hm, go_sem, Nat.reduceAdd, Nat.reduceSub, Nat.reduceMul, Nat.reduceMod, Nat.reduceLT, Nat.reduceLeDiff, Nat.reduceEqDiff, Nat.reduceBEq, Nat.reduceDiv, Int.reduceLT, Int.reduceLE, Int.reduceToNat, Int.reduceNeg, Int.reduceEq, ↓reduceIte, reduceCtorEq, ↓reduceDIte, Bool.false_eq_true, Bool.true_eq_false, ne_eq, not_true_eq_false, not_false_eq_true, Bool.true_or, Bool.false_or, Bool.or_true, Bool.or_false, Bool.true_and, Bool.false_and, Bool.and_true, Bool.and_false, Bool.not_true, Bool.not_false, Bool.not_eq_false', Bool.not_eq_true', and_true, true_and, and_false, false_and, or_true, true_or, or_false, false_or, and_self, or_self, decide_eq_true_eq, decide_true, decide_false, decide_eq_false_iff_not, ite_not, if_true, if_false, eq_self]
    exact ih
theorem mark_Int64SS (xs : List (Ty.Den (.slice (.int .i64)))) (m : Int) (h0 : 0 ≤ m) (h1 : m + cnt (.slice (.slice (.int .i64))) xs ≤ wide) (hb : xs.length ≤ wide) (hx : ∀ x ∈ xs, Bd wide (.slice (.int .i64)) x) : callOf pr 58 [.os (.t 1000000), I m] [(1000000, .arr false true (.slice (.int .i64)) xs)] = some (I (markD (.slice (.slice (.int .i64))) m xs).2, [(1000000, .arr false true (.slice (.int .i64)) (markD (.slice (.slice (.int .i64))) m xs).1)]) := by
  have h := markl_Int64SS xs [] m h0 h1 (by rw [List.length_nil, Nat.zero_add]; exact hb) hx
  simp only [List.nil_append, List.length_nil] at h
  have h : loopOf pr 58 0 ⟨[(0, .os (.t 1000000)), (1, I m), (5, I 0)], [(1000000, .arr false true (.slice (.int .i64)) xs)]⟩ = _ := h
  rw [call_eq pr 58 _ _ Try.f58 fn_58 _ rfl _ ann_58 rfl]
  simp -implicitDefEqProofs only [h, go_sem, Nat.reduceAdd, Nat.reduceSub, Nat.reduceMul, Nat.reduceMod, Nat.reduceLT, Nat.reduceLeDiff, Nat.reduceEqDiff, Nat.reduceBEq, Nat.reduceDiv, Int.reduceLT, Int.reduceLE, Int.reduceToNat, Int.reduceNeg, Int.reduceEq, ↓reduceIte, reduceCtorEq, ↓reduceDIte, Bool.false_eq_true, Bool.true_eq_false, ne_eq, not_true_eq_false, not_false_eq_true, Bool.true_or, Bool.false_or, Bool.or_true, Bool.or_false, Bool.true_and, Bool.false_and, Bool.and_true, Bool.and_false, Bool.not_true, Bool.not_false, Bool.not_eq_false', Bool.not_eq_true', and_true, true_and, and_false, false_and, or_true, true_or, or_false, false_or, and_self, or_self, decide_eq_true_eq, decide_true, decide_false, decide_eq_false_iff_not, ite_not, if_true, if_false, eq_self]
theorem markn_Int64SS (m : Int) : callOf pr 58 [.nilS, I m] [] = some (I m, []) := by
  have h : loopOf pr 58 0 ⟨[(0, .nilS), (1, I m), (5, I 0)], []⟩ = some (.exit 0, ⟨[(0, .nilS), (1, I m), (5, I 0)], []⟩) := by
    rw [loop_eq pr 58 0 _ Try.f58 fn_58 _ rfl _ ann_58 _ rfl]
    simp -implicitDefEqProofs only [Int.lt_irrefl, go_sem, Nat.reduceAdd, Nat.reduceSub, Nat.reduceMul, Nat.reduceMod, Nat.reduceLT, Nat.reduceLeDiff, Nat.reduceEqDiff, Nat.reduceBEq, Nat.reduceDiv, Int.reduceLT, Int.reduceLE, Int.reduceToNat, Int.reduceNeg, Int.reduceEq, ↓reduceIte, reduceCtorEq, ↓reduceDIte, Bool.false_eq_true, Bool.true_eq_false, ne_eq, not_true_eq_false, not_false_eq_true, Bool.true_or, Bool.false_or, Bool.or_true, Bool.or_false, Bool.true_and, Bool.false_and, Bool.and_true, Bool.and_false, Bool.not_true, Bool.not_false, Bool.not_eq_false', Bool.not_eq_true', and_true, true_and, and_false, false_and, or_true, true_or, or_false, false_or, and_self, or_self, decide_eq_true_eq, decide_true, decide_false, decide_eq_false_iff_not, ite_not, if_true, if_false, eq_self]
  rw [call_eq pr 58 _ _ Try.f58 fn_58 _ rfl _ ann_58 rfl]
  simp -implicitDefEqProofs only [h, go_sem, Nat.reduceAdd, Nat.reduceSub, Nat.reduceMul, Nat.reduceMod, Nat.reduceLT, Nat.reduceLeDiff, Nat.reduceEqDiff, Nat.reduceBEq, Nat.reduceDiv, Int.reduceLT, Int.reduceLE, Int.reduceToNat, Int.reduceNeg, Int.reduceEq, ↓reduceIte, reduceCtorEq, ↓reduceDIte, Bool.false_eq_true, Bool.true_eq_false, ne_eq, not_true_eq_false, not_false_eq_true, Bool.true_or, Bool.false_or, Bool.or_true, Bool.or_false, Bool.true_and, Bool.false_and, Bool.and_true, Bool.and_false, Bool.not_true, Bool.not_false, Bool.not_eq_false', Bool.not_eq_true', and_true, true_and, and_false, false_and, or_true, true_or, or_false, false_or, and_self, or_self, decide_eq_true_eq, decide_true, decide_false, decide_eq_false_iff_not, ite_not, if_true, if_false, eq_self]

theorem mark_Policy (y0 : Ty.Den (.slice (.slice (.int .i64)))) (y1 : Ty.Den (.slice (.int .i64))) (m : Int) (h0 : 0 ≤ m) (h1 : m + ((cnt (.slice (.slice (.int .i64))) y0 + cnt (.slice (.int .i64)) y1 : Nat) : Int) ≤ wide) (by0 : Bd wide (.slice (.slice (.int .i64))) y0) (by1 : Bd wide (.slice (.int .i64)) y1) : callOf pr 23 [.agg [.os (.t 1000000), .os (.t 1000001)], I m] [(1000000, .arr false true (.slice (.int .i64)) y0), (1000001, .arr false false (.int .i64) y1)] = some (I (markD (.slice (.int .i64)) (markD (.slice (.slice (.int .i64))) m y0).2 y1).2, [(1000000, .arr false true (.slice (.int .i64)) (markD (.slice (.slice (.int .i64))) m y0).1), (1000001, .arr false false (.int .i64) (markD (.slice (.int .i64)) (markD (.slice (.slice (.int .i64))) m y0).2 y1).1)]) := by
  simp only [wide] at h1
  have q0 := markD_end (.slice (.slice (.int .i64))) m y0
  have q1 := markD_end (.slice (.int .i64)) (markD (.slice (.slice (.int .i64))) m y0).2 y1
  have f0 := mark_Int64SS y0 m (by omega) (by simp only [wide]; omega) by0.1 by0.2
  have f1 := mark_Int64S y1 (markD (.slice (.slice (.int .i64))) m y0).2 (by omega) (by simp only [wide]; omega) by1.1
  rw [call_eq pr 23 _ _ Try.f23 fn_23 _ rfl _ ann_23 rfl]
  simp -implicitDefEqProofs only [f0, f1, go_sem, Nat.reduceAdd, Nat.reduceSub, Nat.reduceMul, Nat.reduceMod, Nat.reduceLT, Nat.reduceLeDiff, Nat.reduceEqDiff, Nat.reduceBEq, Nat.reduceDiv, Int.reduceLT, Int.reduceLE, Int.reduceToNat, Int.reduceNeg, Int.reduceEq, ↓reduceIte, reduceCtorEq, ↓reduceDIte, Bool.false_eq_true, Bool.true_eq_false, ne_eq, not_true_eq_false, not_false_eq_true, Bool.true_or, Bool.false_or, Bool.or_true, Bool.or_false, Bool.true_and, Bool.false_and, Bool.and_true, Bool.and_false, Bool.not_true, Bool.not_false, Bool.not_eq_false', Bool.not_eq_true', and_true, true_and, and_false, false_and, or_true, true_or, or_false, false_or, and_self, or_self, decide_eq_true_eq, decide_true, decide_false, decide_eq_false_iff_not, ite_not, if_true, if_false, eq_self]

theorem markn_Policy (m : Int) (h0 : 0 ≤ m) : callOf pr 23 [.agg [.nilS, .nilS], I m] [] = some (I m, []) := by
  rw [call_eq pr 23 _ _ Try.f23 fn_23 _ rfl _ ann_23 rfl]
  simp -implicitDefEqProofs only [markn_Int64SS, markn_Int64S, fa (show ¬ m < 0 by omega), go_sem, Nat.reduceAdd, Nat.reduceSub, Nat.reduceMul, Nat.reduceMod, Nat.reduceLT, Nat.reduceLeDiff, Nat.reduceEqDiff, Nat.reduceBEq, Nat.reduceDiv, Int.reduceLT, Int.reduceLE, Int.reduceToNat, Int.reduceNeg, Int.reduceEq, ↓reduceIte, reduceCtorEq, ↓reduceDIte, Bool.false_eq_true, Bool.true_eq_false, ne_eq, not_true_eq_false, not_false_eq_true, Bool.true_or, Bool.false_or, Bool.or_true, Bool.or_false, Bool.true_and, Bool.false_and, Bool.and_true, Bool.and_false, Bool.not_true, Bool.not_false, Bool.not_eq_false', Bool.not_eq_true', and_true, true_and, and_false, false_and, or_true, true_or, or_false, false_or, and_self, or_self, decide_eq_true_eq, decide_true, decide_false, decide_eq_false_iff_not, ite_not, if_true, if_false, eq_self]

theorem heldl_Int64S (xs : List (Ty.Den (.int .i64))) : ∀ (done : List (Ty.Den (.int .i64))) (m : Int), 0 ≤ m → m + cnt (.slice (.int .i64)) xs ≤ wide → done.length + xs.length ≤ wide →
    loopOf pr 25 0 ⟨[(0, .d (.slice (.int .i64)) (done ++ (markD (.slice (.int .i64)) m xs).1)), (1, I m), (5, I done.length)], []⟩ = some (.exit 0, ⟨[(0, .d (.slice (.int .i64)) (done ++ (markD (.slice (.int .i64)) m xs).1)), (1, I (markD (.slice (.int .i64)) m xs).2), (5, I ((done.length + xs.length : Nat) : Int))], []⟩) := by
  induction xs with
  | nil =>
    intro done m h0 h1 hb
    rw [loop_eq pr 25 0 _ Try.f25 fn_25 _ rfl _ ann_25 _ rfl]
    simp only [markD_slice, markS_nil]
    simp -implicitDefEqProofs only [Int.lt_irrefl, List.append_nil, Nat.add_zero, go_sem, Nat.reduceAdd, Nat.reduceSub, Nat.reduceMul, Nat.reduceMod, Nat.reduceLT, Nat.reduceLeDiff, Nat.reduceEqDiff, Nat.reduceBEq, Nat.reduceDiv, Int.reduceLT, Int.reduceLE, Int.reduceToNat, Int.reduceNeg, Int.reduceEq, ↓reduceIte, reduceCtorEq, ↓reduceDIte, Bool.false_eq_true, Bool.true_eq_false, ne_eq, not_true_eq_false, not_false_eq_true, Bool.true_or, Bool.false_or, Bool.or_true, Bool.or_false, Bool.true_and, Bool.false_and, Bool.and_true, Bool.and_false, Bool.not_true, Bool.not_false, Bool.not_eq_false', Bool.not_eq_true', and_true, true_and, and_false, false_and, or_true, true_or, or_false, false_or, and_self, or_self, decide_eq_true_eq, decide_true, decide_false, decide_eq_false_iff_not, ite_not, if_true, if_false, eq_self]
  | cons x xs ih =>
    intro done m h0 h1 hb
    simp only [List.length_cons, wide] at hb
    have hn : IntKind.i64.wrap ((done.length : Int) + 1) = ((done.length + 1 : Nat) : Int) := by rw [wrap_i] <;> omega
    have hc : cnt (.slice (.int .i64)) (x :: xs) = 1 + cnt (.slice (.int .i64)) xs := by simp [cnt, List.map_cons, List.sum_cons]
    rw [hc] at h1
    simp only [wide] at h1
    have hw0 : IntKind.i64.wrap (m + 1) = m + 1 := by rw [wrap_i] <;> omega
    have ih := ih (done ++ [m]) (m + 1) (by omega) (by simp only [wide]; omega) (by simp only [List.length_append, List.length_cons, List.length_nil, wide]; omega)
    have e1 : (done ++ [m]).length = done.length + 1 := by simp
    have e2 : done.length + 1 + xs.length = done.length + (x :: xs).length := by simp; omega
    rw [app_one, e1, e2] at ih
    have em : (markD (.slice (.int .i64)) m (x :: xs)) = (m :: (markD (.slice (.int .i64)) (m + 1) xs).1, (markD (.slice (.int .i64)) (m + 1) xs).2) := rfl
    rw [em]
    simp only
    rw [loop_eq pr 25 0 _ Try.f25 fn_25 _ rfl _ ann_25 _ rfl]
    simp -implicitDefEqProofs only [getD_app, set_app, lt_app, ltn_app, zero_le_cast, Int.toNat_natCast, hn, BEq.rfl, beq_self_eq_true, decide_true, hw0, go_sem, Nat.reduceAdd, Nat.reduceSub, Nat.reduceMul, Nat.reduceMod, Nat.reduceLT, Nat.reduceLeDiff, Nat.reduceEqDiff, Nat.reduceBEq, Nat.reduceDiv, Int.reduceLT, Int.reduceLE, Int.reduceToNat, Int.reduceNeg, Int.reduceEq, ↓reduceIte, reduceCtorEq, ↓reduceDIte, Bool.false_eq_true, Bool.true_eq_false, ne_eq, not_true_eq_false, not_false_eq_true, Bool.true_or, Bool.false_or, Bool.or_true, Bool.or_false, Bool.true_and, Bool.false_and, Bool.and_true, Bool.and_false, Bool.not_true, Bool.not_false, Bool.not_eq_false', Bool.not_eq_true', and_true, true_and, and_false, false_and, or_true, true_or, or_false, false_or, and_self, or_self, decide_eq_true_eq, decide_true, decide_false, decide_eq_false_iff_not, ite_not, if_true, if_false, eq_self]
    exact ih
theorem held_Int64S (xs : List (Ty.Den (.int .i64))) (m : Int) (h0 : 0 ≤ m) (h1 : m + cnt (.slice (.int .i64)) xs ≤ wide) (hb : xs.length ≤ wide) : callOf pr 25 [.d (.slice (.int .i64)) (markD (.slice (.int .i64)) m xs).1, I m] [] = some (I (markD (.slice (.int .i64)) m xs).2, []) := by
  have h := heldl_Int64S xs [] m h0 h1 (by rw [List.length_nil, Nat.zero_add]; exact hb)
  simp only [List.nil_append, List.length_nil] at h
  have h : loopOf pr 25 0 ⟨[(0, .d (.slice (.int .i64)) (markD (.slice (.int .i64)) m xs).1), (1, I m), (5, I 0)], []⟩ = _ := h
  rw [call_eq pr 25 _ _ Try.f25 fn_25 _ rfl _ ann_25 rfl]
  simp -implicitDefEqProofs only [h, go_sem, Nat.reduceAdd, Nat.reduceSub, Nat.reduceMul, Nat.reduceMod, Nat.reduceLT, Nat.reduceLeDiff, Nat.reduceEqDiff, Nat.reduceBEq, Nat.reduceDiv, Int.reduceLT, Int.reduceLE, Int.reduceToNat, Int.reduceNeg, Int.reduceEq, ↓reduceIte, reduceCtorEq, ↓reduceDIte, Bool.false_eq_true, Bool.true_eq_false, ne_eq, not_true_eq_false, not_false_eq_true, Bool.true_or, Bool.false_or, Bool.or_true, Bool.or_false, Bool.true_and, Bool.false_and, Bool.and_true, Bool.and_false, Bool.not_true, Bool.not_false, Bool.not_eq_false', Bool.not_eq_true', and_true, true_and, and_false, false_and, or_true, true_or, or_false, false_or, and_self, or_self, decide_eq_true_eq, decide_true, decide_false, decide_eq_false_iff_not, ite_not, if_true, if_false, eq_self]
theorem heldn_Int64S (m : Int) : callOf pr 25 [.nilS, I m] [] = some (I m, []) := by
  have h : loopOf pr 25 0 ⟨[(0, .nilS), (1, I m), (5, I 0)], []⟩ = some (.exit 0, ⟨[(0, .nilS), (1, I m), (5, I 0)], []⟩) := by
    rw [loop_eq pr 25 0 _ Try.f25 fn_25 _ rfl _ ann_25 _ rfl]
    simp -implicitDefEqProofs only [Int.lt_irrefl, go_sem, Nat.reduceAdd, Nat.reduceSub, Nat.reduceMul, Nat.reduceMod, Nat.reduceLT, Nat.reduceLeDiff, Nat.reduceEqDiff, Nat.reduceBEq, Nat.reduceDiv, Int.reduceLT, Int.reduceLE, Int.reduceToNat, Int.reduceNeg, Int.reduceEq, ↓reduceIte, reduceCtorEq, ↓reduceDIte, Bool.false_eq_true, Bool.true_eq_false, ne_eq, not_true_eq_false, not_false_eq_true, Bool.true_or, Bool.false_or, Bool.or_true, Bool.or_false, Bool.true_and, Bool.false_and, Bool.and_true, Bool.and_false, Bool.not_true, Bool.not_false, Bool.not_eq_false', Bool.not_eq_true', and_true, true_and, and_false, false_and, or_true, true_or, or_false, false_or, and_self, or_self, decide_eq_true_eq, decide_true, decide_false, decide_eq_false_iff_not, ite_not, if_true, if_false, eq_self]
  rw [call_eq pr 25 _ _ Try.f25 fn_25 _ rfl _ ann_25 rfl]
  simp -implicitDefEqProofs only [h, go_sem, Nat.reduceAdd, Nat.reduceSub, Nat.reduceMul, Nat.reduceMod, Nat.reduceLT, Nat.reduceLeDiff, Nat.reduceEqDiff, Nat.reduceBEq, Nat.reduceDiv, Int.reduceLT, Int.reduceLE, Int.reduceToNat, Int.reduceNeg, Int.reduceEq, ↓reduceIte, reduceCtorEq, ↓reduceDIte, Bool.false_eq_true, Bool.true_eq_false, ne_eq, not_true_eq_false, not_false_eq_true, Bool.true_or, Bool.false_or, Bool.or_true, Bool.or_false, Bool.true_and, Bool.false_and, Bool.and_true, Bool.and_false, Bool.not_true, Bool.not_false, Bool.not_eq_false', Bool.not_eq_true', and_true, true_and, and_false, false_and, or_true, true_or, or_false, false_or, and_self, or_self, decide_eq_true_eq, decide_true, decide_false, decide_eq_false_iff_not, ite_not, if_true, if_false, eq_self]
end Go.Proofs.Ytfooniikopekoaa.PI
