/- The functions of the rows: sizes, copies, comparisons, marks: printed by a program of the session. -/
import Derived.Test.YticpldfkjldepaaGreatGQStd
import Derived.Test.YticpldfkjldepaaGreatPIProg
namespace Go.Proofs.YticpldfkjldepaaGreat.PI
open Go Go.Q
set_option maxRecDepth 100000
set_option maxHeartbeats 4000000
set_option linter.unusedSimpArgs false
set_option linter.unusedVariables false

theorem sz_Int64S (a : List (Ty.Den (.int .i64))) (ha : Bd wide (.slice (.int .i64)) a) (l : Int) (h0 : 0 ≤ l) (h1 : l ≤ 1048576) : ∃ r, callOf pr 56 [.d (.slice (.int .i64)) a, I l] [] = some (I r, []) ∧ r ≤ l ∧ (0 ≤ r → Bd small (.slice (.int .i64)) a) := by
  have hl : a.length ≤ wide := ha.1
  simp only [wide] at hl
  have hw : IntKind.i64.wrap (l - (a.length : Int)) = l - a.length := by rw [wrap_i] <;> omega
  by_cases h : l - (a.length : Int) < 0
  · refine ⟨-1, ?_, by omega, fun h => absurd h (by omega)⟩
    rw [call_eq pr 56 _ _ Tryz.f56 fn_56 _ rfl _ ann_56 rfl]
    simp -implicitDefEqProofs only [hw, tr h, go_sem, Nat.reduceAdd, Nat.reduceSub, Nat.reduceMul, Nat.reduceMod, Nat.reduceLT, Nat.reduceLeDiff, Nat.reduceEqDiff, Nat.reduceBEq, Nat.reduceDiv, Int.reduceLT, Int.reduceLE, Int.reduceToNat, Int.reduceNeg, Int.reduceEq, ↓reduceIte, reduceCtorEq, ↓reduceDIte]
  · refine ⟨l - a.length, ?_, by omega, fun _ => ⟨?_, fun y _ => Bd.scalar (.int .i64) rfl y⟩⟩
    · rw [call_eq pr 56 _ _ Tryz.f56 fn_56 _ rfl _ ann_56 rfl]
      simp -implicitDefEqProofs only [hw, fa h, go_sem, Nat.reduceAdd, Nat.reduceSub, Nat.reduceMul, Nat.reduceMod, Nat.reduceLT, Nat.reduceLeDiff, Nat.reduceEqDiff, Nat.reduceBEq, Nat.reduceDiv, Int.reduceLT, Int.reduceLE, Int.reduceToNat, Int.reduceNeg, Int.reduceEq, ↓reduceIte, reduceCtorEq, ↓reduceDIte]
    · show a.length ≤ small
      simp only [small]; omega

theorem sz_EntryS (a : List (Ty.Den (.agg (.cons (.int .i64) (.cons .bool (.cons .bool (.cons .bool .nil))))))) (ha : Bd wide (.slice (.agg (.cons (.int .i64) (.cons .bool (.cons .bool (.cons .bool .nil)))))) a) (l : Int) (h0 : 0 ≤ l) (h1 : l ≤ 1048576) : ∃ r, callOf pr 117 [.d (.slice (.agg (.cons (.int .i64) (.cons .bool (.cons .bool (.cons .bool .nil)))))) a, I l] [] = some (I r, []) ∧ r ≤ l ∧ (0 ≤ r → Bd small (.slice (.agg (.cons (.int .i64) (.cons .bool (.cons .bool (.cons .bool .nil)))))) a) := by
  have hl : a.length ≤ wide := ha.1
  simp only [wide] at hl
  have hw : IntKind.i64.wrap (l - (a.length : Int)) = l - a.length := by rw [wrap_i] <;> omega
  by_cases h : l - (a.length : Int) < 0
  · refine ⟨-1, ?_, by omega, fun h => absurd h (by omega)⟩
    rw [call_eq pr 117 _ _ Tryz.f117 fn_117 _ rfl _ ann_117 rfl]
    simp -implicitDefEqProofs only [hw, tr h, go_sem, Nat.reduceAdd, Nat.reduceSub, Nat.reduceMul, Nat.reduceMod, Nat.reduceLT, Nat.reduceLeDiff, Nat.reduceEqDiff, Nat.reduceBEq, Nat.reduceDiv, Int.reduceLT, Int.reduceLE, Int.reduceToNat, Int.reduceNeg, Int.reduceEq, ↓reduceIte, reduceCtorEq, ↓reduceDIte]
  · refine ⟨l - a.length, ?_, by omega, fun _ => ⟨?_, fun y _ => Bd.scalar (.agg (.cons (.int .i64) (.cons .bool (.cons .bool (.cons .bool .nil))))) rfl y⟩⟩
    · rw [call_eq pr 117 _ _ Tryz.f117 fn_117 _ rfl _ ann_117 rfl]
      simp -implicitDefEqProofs only [hw, fa h, go_sem, Nat.reduceAdd, Nat.reduceSub, Nat.reduceMul, Nat.reduceMod, Nat.reduceLT, Nat.reduceLeDiff, Nat.reduceEqDiff, Nat.reduceBEq, Nat.reduceDiv, Int.reduceLT, Int.reduceLE, Int.reduceToNat, Int.reduceNeg, Int.reduceEq, ↓reduceIte, reduceCtorEq, ↓reduceDIte]
    · show a.length ≤ small
      simp only [small]; omega

theorem szl_EntrySS (xs : List (Ty.Den (.slice (.agg (.cons (.int .i64) (.cons .bool (.cons .bool (.cons .bool .nil)))))))) : ∀ (done : List (Ty.Den (.slice (.agg (.cons (.int .i64) (.cons .bool (.cons .bool (.cons .bool .nil)))))))) (l : Int), 0 ≤ l → l ≤ 1048576 → done.length + xs.length ≤ wide → (∀ x ∈ xs, Bd wide (.slice (.agg (.cons (.int .i64) (.cons .bool (.cons .bool (.cons .bool .nil)))))) x) →
    (∃ r, 0 ≤ r ∧ r ≤ l ∧ (∀ x ∈ xs, Bd small (.slice (.agg (.cons (.int .i64) (.cons .bool (.cons .bool (.cons .bool .nil)))))) x) ∧ loopOf pr 57 0 ⟨[(0, .d (.slice (.slice (.agg (.cons (.int .i64) (.cons .bool (.cons .bool (.cons .bool .nil))))))) (done ++ xs)), (1, I l), (5, I done.length)], []⟩ = some (.exit 0, ⟨[(0, .d (.slice (.slice (.agg (.cons (.int .i64) (.cons .bool (.cons .bool (.cons .bool .nil))))))) (done ++ xs)), (1, I r), (5, I ((done.length + xs.length : Nat) : Int))], []⟩)) ∨ loopOf pr 57 0 ⟨[(0, .d (.slice (.slice (.agg (.cons (.int .i64) (.cons .bool (.cons .bool (.cons .bool .nil))))))) (done ++ xs)), (1, I l), (5, I done.length)], []⟩ = some (.ret, ⟨[(4, I (-1))], []⟩) := by
  induction xs with
  | nil =>
    intro done l h0 h1 hb hx
    refine .inl ⟨l, h0, Int.le_refl _, by simp, ?_⟩
    rw [loop_eq pr 57 0 _ Tryz.f57 fn_57 _ rfl _ ann_57 _ rfl]
    simp -implicitDefEqProofs only [Int.lt_irrefl, List.append_nil, Nat.add_zero, go_sem, Nat.reduceAdd, Nat.reduceSub, Nat.reduceMul, Nat.reduceMod, Nat.reduceLT, Nat.reduceLeDiff, Nat.reduceEqDiff, Nat.reduceBEq, Nat.reduceDiv, Int.reduceLT, Int.reduceLE, Int.reduceToNat, Int.reduceNeg, Int.reduceEq, ↓reduceIte, reduceCtorEq, ↓reduceDIte]
  | cons x xs ih =>
    intro done l h0 h1 hb hx
    simp only [List.length_cons, wide] at hb
    obtain ⟨r, hr1, hr2, hr3⟩ := sz_EntryS x (hx x (by simp)) l h0 h1
    rw [loop_eq pr 57 0 _ Tryz.f57 fn_57 _ rfl _ ann_57 _ rfl]
    by_cases h : r < 0
    · right
      simp -implicitDefEqProofs only [getD_app, set_app, lt_app, ltn_app, zero_le_cast, Int.toNat_natCast, hr1, tr h, go_sem, Nat.reduceAdd, Nat.reduceSub, Nat.reduceMul, Nat.reduceMod, Nat.reduceLT, Nat.reduceLeDiff, Nat.reduceEqDiff, Nat.reduceBEq, Nat.reduceDiv, Int.reduceLT, Int.reduceLE, Int.reduceToNat, Int.reduceNeg, Int.reduceEq, ↓reduceIte, reduceCtorEq, ↓reduceDIte]
    · have hn : IntKind.i64.wrap ((done.length : Int) + 1) = ((done.length + 1 : Nat) : Int) := by rw [wrap_i] <;> omega
      have ih := ih (done ++ [x]) r (by omega) (by omega) (by simp only [List.length_append, List.length_cons, List.length_nil, wide]; omega) (fun y hy => hx y (by simp [hy]))
      have e1 : (done ++ [x]).length = done.length + 1 := by simp
      have e2 : done.length + 1 + xs.length = done.length + (x :: xs).length := by simp; omega
      rw [app_one, e1, e2] at ih
      rcases ih with ⟨q, q1, q2, q3, q4⟩ | q
      · refine .inl ⟨q, q1, by omega, ?_, ?_⟩
        · intro y hy
          rw [List.mem_cons] at hy
          rcases hy with rfl | hy
          · exact hr3 (by omega)
          · exact q3 y hy
        · simp -implicitDefEqProofs only [getD_app, set_app, lt_app, ltn_app, zero_le_cast, Int.toNat_natCast, hr1, fa h, hn, go_sem, Nat.reduceAdd, Nat.reduceSub, Nat.reduceMul, Nat.reduceMod, Nat.reduceLT, Nat.reduceLeDiff, Nat.reduceEqDiff, Nat.reduceBEq, Nat.reduceDiv, Int.reduceLT, Int.reduceLE, Int.reduceToNat, Int.reduceNeg, Int.reduceEq, ↓reduceIte, reduceCtorEq, ↓reduceDIte]
          exact q4
      · right
        simp -implicitDefEqProofs only [getD_app, set_app, lt_app, ltn_app, zero_le_cast, Int.toNat_natCast, hr1, fa h, hn, go_sem, Nat.reduceAdd, Nat.reduceSub, Nat.reduceMul, Nat.reduceMod, Nat.reduceLT, Nat.reduceLeDiff, Nat.reduceEqDiff, Nat.reduceBEq, Nat.reduceDiv, Int.reduceLT, Int.reduceLE, Int.reduceToNat, Int.reduceNeg, Int.reduceEq, ↓reduceIte, reduceCtorEq, ↓reduceDIte]
        exact q
theorem sz_EntrySS (a : List (Ty.Den (.slice (.agg (.cons (.int .i64) (.cons .bool (.cons .bool (.cons .bool .nil)))))))) (ha : Bd wide (.slice (.slice (.agg (.cons (.int .i64) (.cons .bool (.cons .bool (.cons .bool .nil))))))) a) (l : Int) (h0 : 0 ≤ l) (h1 : l ≤ 1048576) : ∃ r, callOf pr 57 [.d (.slice (.slice (.agg (.cons (.int .i64) (.cons .bool (.cons .bool (.cons .bool .nil))))))) a, I l] [] = some (I r, []) ∧ r ≤ l ∧ (0 ≤ r → Bd small (.slice (.slice (.agg (.cons (.int .i64) (.cons .bool (.cons .bool (.cons .bool .nil))))))) a) := by
  have hl : a.length ≤ wide := ha.1
  simp only [wide] at hl
  have hw : IntKind.i64.wrap (l - (a.length : Int)) = l - a.length := by rw [wrap_i] <;> omega
  by_cases h : l - (a.length : Int) < 0
  · refine ⟨-1, ?_, by omega, fun h => absurd h (by omega)⟩
    rw [call_eq pr 57 _ _ Tryz.f57 fn_57 _ rfl _ ann_57 rfl]
    simp -implicitDefEqProofs only [hw, tr h, go_sem, Nat.reduceAdd, Nat.reduceSub, Nat.reduceMul, Nat.reduceMod, Nat.reduceLT, Nat.reduceLeDiff, Nat.reduceEqDiff, Nat.reduceBEq, Nat.reduceDiv, Int.reduceLT, Int.reduceLE, Int.reduceToNat, Int.reduceNeg, Int.reduceEq, ↓reduceIte, reduceCtorEq, ↓reduceDIte]
  · have hs := szl_EntrySS a [] (l - a.length) (by omega) (by omega) (by simp only [List.length_nil, wide]; omega) ha.2
    simp only [List.nil_append, List.length_nil] at hs
    rcases hs with ⟨r, r1, r2, r3, r4⟩ | r
    · have r4 : loopOf pr 57 0 ⟨[(0, .d (.slice (.slice (.agg (.cons (.int .i64) (.cons .bool (.cons .bool (.cons .bool .nil))))))) a), (1, I (l - a.length)), (5, I 0)], []⟩ = _ := r4
      refine ⟨r, ?_, by omega, fun _ => ⟨?_, r3⟩⟩
      · rw [call_eq pr 57 _ _ Tryz.f57 fn_57 _ rfl _ ann_57 rfl]
        simp -implicitDefEqProofs only [hw, fa h, r4, go_sem, Nat.reduceAdd, Nat.reduceSub, Nat.reduceMul, Nat.reduceMod, Nat.reduceLT, Nat.reduceLeDiff, Nat.reduceEqDiff, Nat.reduceBEq, Nat.reduceDiv, Int.reduceLT, Int.reduceLE, Int.reduceToNat, Int.reduceNeg, Int.reduceEq, ↓reduceIte, reduceCtorEq, ↓reduceDIte]
      · show a.length ≤ small
        simp only [small]; omega
    · have r : loopOf pr 57 0 ⟨[(0, .d (.slice (.slice (.agg (.cons (.int .i64) (.cons .bool (.cons .bool (.cons .bool .nil))))))) a), (1, I (l - a.length)), (5, I 0)], []⟩ = _ := r
      refine ⟨-1, ?_, by omega, fun h => absurd h (by omega)⟩
      rw [call_eq pr 57 _ _ Tryz.f57 fn_57 _ rfl _ ann_57 rfl]
      simp -implicitDefEqProofs only [hw, fa h, r, go_sem, Nat.reduceAdd, Nat.reduceSub, Nat.reduceMul, Nat.reduceMod, Nat.reduceLT, Nat.reduceLeDiff, Nat.reduceEqDiff, Nat.reduceBEq, Nat.reduceDiv, Int.reduceLT, Int.reduceLE, Int.reduceToNat, Int.reduceNeg, Int.reduceEq, ↓reduceIte, reduceCtorEq, ↓reduceDIte]

theorem sz_CachedS (a : List (Ty.Den (.agg (.cons (.int .i64) (.cons (.int .i64) (.cons .bool .nil)))))) (ha : Bd wide (.slice (.agg (.cons (.int .i64) (.cons (.int .i64) (.cons .bool .nil))))) a) (l : Int) (h0 : 0 ≤ l) (h1 : l ≤ 1048576) : ∃ r, callOf pr 58 [.d (.slice (.agg (.cons (.int .i64) (.cons (.int .i64) (.cons .bool .nil))))) a, I l] [] = some (I r, []) ∧ r ≤ l ∧ (0 ≤ r → Bd small (.slice (.agg (.cons (.int .i64) (.cons (.int .i64) (.cons .bool .nil))))) a) := by
  have hl : a.length ≤ wide := ha.1
  simp only [wide] at hl
  have hw : IntKind.i64.wrap (l - (a.length : Int)) = l - a.length := by rw [wrap_i] <;> omega
  by_cases h : l - (a.length : Int) < 0
  · refine ⟨-1, ?_, by omega, fun h => absurd h (by omega)⟩
    rw [call_eq pr 58 _ _ Tryz.f58 fn_58 _ rfl _ ann_58 rfl]
    simp -implicitDefEqProofs only [hw, tr h, go_sem, Nat.reduceAdd, Nat.reduceSub, Nat.reduceMul, Nat.reduceMod, Nat.reduceLT, Nat.reduceLeDiff, Nat.reduceEqDiff, Nat.reduceBEq, Nat.reduceDiv, Int.reduceLT, Int.reduceLE, Int.reduceToNat, Int.reduceNeg, Int.reduceEq, ↓reduceIte, reduceCtorEq, ↓reduceDIte]
  · refine ⟨l - a.length, ?_, by omega, fun _ => ⟨?_, fun y _ => Bd.scalar (.agg (.cons (.int .i64) (.cons (.int .i64) (.cons .bool .nil)))) rfl y⟩⟩
    · rw [call_eq pr 58 _ _ Tryz.f58 fn_58 _ rfl _ ann_58 rfl]
      simp -implicitDefEqProofs only [hw, fa h, go_sem, Nat.reduceAdd, Nat.reduceSub, Nat.reduceMul, Nat.reduceMod, Nat.reduceLT, Nat.reduceLeDiff, Nat.reduceEqDiff, Nat.reduceBEq, Nat.reduceDiv, Int.reduceLT, Int.reduceLE, Int.reduceToNat, Int.reduceNeg, Int.reduceEq, ↓reduceIte, reduceCtorEq, ↓reduceDIte]
    · show a.length ≤ small
      simp only [small]; omega

theorem sz_Space (x : Ty.Den (.agg (.cons (.slice (.int .i64)) (.cons (.slice (.slice (.agg (.cons (.int .i64) (.cons .bool (.cons .bool (.cons .bool .nil))))))) (.cons (.slice (.agg (.cons (.int .i64) (.cons (.int .i64) (.cons .bool .nil))))) .nil))))) (ha : Bd wide (.agg (.cons (.slice (.int .i64)) (.cons (.slice (.slice (.agg (.cons (.int .i64) (.cons .bool (.cons .bool (.cons .bool .nil))))))) (.cons (.slice (.agg (.cons (.int .i64) (.cons (.int .i64) (.cons .bool .nil))))) .nil)))) x) (l : Int) (h0 : 0 ≤ l) (h1 : l ≤ 1048576) : ∃ r, callOf pr 18 [.agg [.d (.slice (.int .i64)) x.1, .d (.slice (.slice (.agg (.cons (.int .i64) (.cons .bool (.cons .bool (.cons .bool .nil))))))) x.2.1, .d (.slice (.agg (.cons (.int .i64) (.cons (.int .i64) (.cons .bool .nil))))) x.2.2.1], I l] [] = some (I r, []) ∧ r ≤ l ∧ (0 ≤ r → Bd small (.agg (.cons (.slice (.int .i64)) (.cons (.slice (.slice (.agg (.cons (.int .i64) (.cons .bool (.cons .bool (.cons .bool .nil))))))) (.cons (.slice (.agg (.cons (.int .i64) (.cons (.int .i64) (.cons .bool .nil))))) .nil)))) x) := by
  obtain ⟨r0, r0a, r0b, r0c⟩ := sz_Int64S x.1 ha.1 l (by omega) (by omega)
  by_cases g0 : r0 < 0
  · refine ⟨-1, ?_, by omega, fun h => absurd h (by omega)⟩
    rw [call_eq pr 18 _ _ Tryz.f18 fn_18 _ rfl _ ann_18 rfl]
    simp -implicitDefEqProofs only [r0a, tr g0, go_sem, Nat.reduceAdd, Nat.reduceSub, Nat.reduceMul, Nat.reduceMod, Nat.reduceLT, Nat.reduceLeDiff, Nat.reduceEqDiff, Nat.reduceBEq, Nat.reduceDiv, Int.reduceLT, Int.reduceLE, Int.reduceToNat, Int.reduceNeg, Int.reduceEq, ↓reduceIte, reduceCtorEq, ↓reduceDIte]
  · skip
    obtain ⟨r1, r1a, r1b, r1c⟩ := sz_EntrySS x.2.1 ha.2.1 r0 (by omega) (by omega)
    by_cases g1 : r1 < 0
    · refine ⟨-1, ?_, by omega, fun h => absurd h (by omega)⟩
      rw [call_eq pr 18 _ _ Tryz.f18 fn_18 _ rfl _ ann_18 rfl]
      simp -implicitDefEqProofs only [r0a, fa g0, r1a, tr g1, go_sem, Nat.reduceAdd, Nat.reduceSub, Nat.reduceMul, Nat.reduceMod, Nat.reduceLT, Nat.reduceLeDiff, Nat.reduceEqDiff, Nat.reduceBEq, Nat.reduceDiv, Int.reduceLT, Int.reduceLE, Int.reduceToNat, Int.reduceNeg, Int.reduceEq, ↓reduceIte, reduceCtorEq, ↓reduceDIte]
    · skip
      obtain ⟨r2, r2a, r2b, r2c⟩ := sz_CachedS x.2.2.1 ha.2.2.1 r1 (by omega) (by omega)
      by_cases g2 : r2 < 0
      · refine ⟨-1, ?_, by omega, fun h => absurd h (by omega)⟩
        rw [call_eq pr 18 _ _ Tryz.f18 fn_18 _ rfl _ ann_18 rfl]
        simp -implicitDefEqProofs only [r0a, fa g0, r1a, fa g1, r2a, tr g2, go_sem, Nat.reduceAdd, Nat.reduceSub, Nat.reduceMul, Nat.reduceMod, Nat.reduceLT, Nat.reduceLeDiff, Nat.reduceEqDiff, Nat.reduceBEq, Nat.reduceDiv, Int.reduceLT, Int.reduceLE, Int.reduceToNat, Int.reduceNeg, Int.reduceEq, ↓reduceIte, reduceCtorEq, ↓reduceDIte]
      · refine ⟨r2, ?_, by omega, fun _ => ⟨r0c (by omega), r1c (by omega), r2c (by omega), trivial⟩⟩
        rw [call_eq pr 18 _ _ Tryz.f18 fn_18 _ rfl _ ann_18 rfl]
        simp -implicitDefEqProofs only [r0a, fa g0, r1a, fa g1, r2a, fa g2, go_sem, Nat.reduceAdd, Nat.reduceSub, Nat.reduceMul, Nat.reduceMod, Nat.reduceLT, Nat.reduceLeDiff, Nat.reduceEqDiff, Nat.reduceBEq, Nat.reduceDiv, Int.reduceLT, Int.reduceLE, Int.reduceToNat, Int.reduceNeg, Int.reduceEq, ↓reduceIte, reduceCtorEq, ↓reduceDIte]

theorem tol_Int64S (xs : List (Ty.Den (.int .i64))) : ∀ (done : List (Ty.Den (.int .i64))), done.length + xs.length ≤ wide →
    loopOf pr 68 0 ⟨[(0, .d (.slice (.int .i64)) (done ++ xs)), (3, .os (.t 448)), (4, I done.length)], [(448, .arr true false (.int .i64) (done ++ List.replicate xs.length (0 : Int)))]⟩ = some (.exit 0, ⟨[(0, .d (.slice (.int .i64)) (done ++ xs)), (3, .os (.t 448)), (4, I ((done.length + xs.length : Nat) : Int))], [(448, .arr true false (.int .i64) (done ++ xs))]⟩) := by
  induction xs with
  | nil =>
    intro done hb
    rw [loop_eq pr 68 0 _ Tryz.f68 fn_68 _ rfl _ ann_68 _ rfl]
    simp -implicitDefEqProofs only [Int.lt_irrefl, List.append_nil, Nat.add_zero, go_sem, Nat.reduceAdd, Nat.reduceSub, Nat.reduceMul, Nat.reduceMod, Nat.reduceLT, Nat.reduceLeDiff, Nat.reduceEqDiff, Nat.reduceBEq, Nat.reduceDiv, Int.reduceLT, Int.reduceLE, Int.reduceToNat, Int.reduceNeg, Int.reduceEq, ↓reduceIte, reduceCtorEq, ↓reduceDIte]
  | cons x xs ih =>
    intro done hb
    simp only [List.length_cons, wide] at hb
    have hn : IntKind.i64.wrap ((done.length : Int) + 1) = ((done.length + 1 : Nat) : Int) := by rw [wrap_i] <;> omega
    have ih := ih (done ++ [x]) (by simp only [List.length_append, List.length_cons, List.length_nil, wide]; omega)
    have e1 : (done ++ [x]).length = done.length + 1 := by simp
    have e2 : done.length + 1 + xs.length = done.length + (x :: xs).length := by simp; omega
    have e3 : List.replicate (x :: xs).length (0 : Int) = (0 : Int) :: List.replicate xs.length (0 : Int) := rfl
    rw [app_one, app_one, e1, e2] at ih
    rw [e3]
    rw [loop_eq pr 68 0 _ Tryz.f68 fn_68 _ rfl _ ann_68 _ rfl]
    simp -implicitDefEqProofs only [getD_app, set_app, lt_app, ltn_app, zero_le_cast, Int.toNat_natCast, hn, go_sem, Nat.reduceAdd, Nat.reduceSub, Nat.reduceMul, Nat.reduceMod, Nat.reduceLT, Nat.reduceLeDiff, Nat.reduceEqDiff, Nat.reduceBEq, Nat.reduceDiv, Int.reduceLT, Int.reduceLE, Int.reduceToNat, Int.reduceNeg, Int.reduceEq, ↓reduceIte, reduceCtorEq, ↓reduceDIte]
    exact ih
theorem to_Int64S (xs : List (Ty.Den (.int .i64))) (hb : xs.length ≤ 1000000000000) : callOf pr 68 [.d (.slice (.int .i64)) xs] [] = some (.os (.t 448), [(448, .arr true false (.int .i64) xs)]) := by
  have h := tol_Int64S xs [] (by simp only [List.length_nil, wide]; omega)
  simp only [List.nil_append, List.length_nil] at h
  have h : loopOf pr 68 0 ⟨[(0, .d (.slice (.int .i64)) xs), (3, .os (.t 448)), (4, I 0)], [(448, .arr true false (.int .i64) (List.replicate xs.length (0 : Int)))]⟩ = _ := h
  have h1 : (((8 : Nat) : Int) * (xs.length : Int) ≤ 140737488355328) = True := by simp; omega
  have h2 : ((xs.length : Int) ≤ 9223372036854775807) = True := by simp; omega
  rw [call_eq pr 68 _ _ Tryz.f68 fn_68 _ rfl _ ann_68 rfl]
  simp -implicitDefEqProofs only [zero_le_cast, Int.le_refl, h1, h2, Int.toNat_natCast, h, go_sem, Nat.reduceAdd, Nat.reduceSub, Nat.reduceMul, Nat.reduceMod, Nat.reduceLT, Nat.reduceLeDiff, Nat.reduceEqDiff, Nat.reduceBEq, Nat.reduceDiv, Int.reduceLT, Int.reduceLE, Int.reduceToNat, Int.reduceNeg, Int.reduceEq, ↓reduceIte, reduceCtorEq, ↓reduceDIte]

theorem to_Entry (x : Ty.Den (.agg (.cons (.int .i64) (.cons .bool (.cons .bool (.cons .bool .nil)))))) : callOf pr 142 [.agg [I x.1, B x.2.1, B x.2.2.1, B x.2.2.2.1]] [] = some (.agg [I x.1, B x.2.1, B x.2.2.1, B x.2.2.2.1], []) := by
  rw [call_eq pr 142 _ _ Tryz.f142 fn_142 _ rfl _ ann_142 rfl]
  simp -implicitDefEqProofs only [go_sem, Nat.reduceAdd, Nat.reduceSub, Nat.reduceMul, Nat.reduceMod, Nat.reduceLT, Nat.reduceLeDiff, Nat.reduceEqDiff, Nat.reduceBEq, Nat.reduceDiv, Int.reduceLT, Int.reduceLE, Int.reduceToNat, Int.reduceNeg, Int.reduceEq, ↓reduceIte, reduceCtorEq, ↓reduceDIte]

theorem tol_EntryS (xs : List (Ty.Den (.agg (.cons (.int .i64) (.cons .bool (.cons .bool (.cons .bool .nil))))))) : ∀ (done : List (Ty.Den (.agg (.cons (.int .i64) (.cons .bool (.cons .bool (.cons .bool .nil))))))), done.length + xs.length ≤ wide →
    loopOf pr 121 0 ⟨[(0, .d (.slice (.agg (.cons (.int .i64) (.cons .bool (.cons .bool (.cons .bool .nil)))))) (done ++ xs)), (3, .os (.t 448)), (4, I done.length)], [(448, .arr true false (.agg (.cons (.int .i64) (.cons .bool (.cons .bool (.cons .bool .nil))))) (done ++ List.replicate xs.length ((0 : Int), false, false, false, ())))]⟩ = some (.exit 0, ⟨[(0, .d (.slice (.agg (.cons (.int .i64) (.cons .bool (.cons .bool (.cons .bool .nil)))))) (done ++ xs)), (3, .os (.t 448)), (4, I ((done.length + xs.length : Nat) : Int))], [(448, .arr true false (.agg (.cons (.int .i64) (.cons .bool (.cons .bool (.cons .bool .nil))))) (done ++ xs))]⟩) := by
  induction xs with
  | nil =>
    intro done hb
    rw [loop_eq pr 121 0 _ Tryz.f121 fn_121 _ rfl _ ann_121 _ rfl]
    simp -implicitDefEqProofs only [Int.lt_irrefl, List.append_nil, Nat.add_zero, go_sem, Nat.reduceAdd, Nat.reduceSub, Nat.reduceMul, Nat.reduceMod, Nat.reduceLT, Nat.reduceLeDiff, Nat.reduceEqDiff, Nat.reduceBEq, Nat.reduceDiv, Int.reduceLT, Int.reduceLE, Int.reduceToNat, Int.reduceNeg, Int.reduceEq, ↓reduceIte, reduceCtorEq, ↓reduceDIte]
  | cons x xs ih =>
    intro done hb
    simp only [List.length_cons, wide] at hb
    have hn : IntKind.i64.wrap ((done.length : Int) + 1) = ((done.length + 1 : Nat) : Int) := by rw [wrap_i] <;> omega
    have ih := ih (done ++ [x]) (by simp only [List.length_append, List.length_cons, List.length_nil, wide]; omega)
    have e1 : (done ++ [x]).length = done.length + 1 := by simp
    have e2 : done.length + 1 + xs.length = done.length + (x :: xs).length := by simp; omega
    have e3 : List.replicate (x :: xs).length ((0 : Int), false, false, false, ()) = ((0 : Int), false, false, false, ()) :: List.replicate xs.length ((0 : Int), false, false, false, ()) := rfl
    rw [app_one, app_one, e1, e2] at ih
    rw [e3]
    rw [loop_eq pr 121 0 _ Tryz.f121 fn_121 _ rfl _ ann_121 _ rfl]
    obtain ⟨a0, a1, a2, a3, ⟨⟩⟩ := x
    simp -implicitDefEqProofs only [getD_app, set_app, lt_app, ltn_app, zero_le_cast, Int.toNat_natCast, hn, to_Entry ((a0, a1, a2, a3, ())), go_sem, Nat.reduceAdd, Nat.reduceSub, Nat.reduceMul, Nat.reduceMod, Nat.reduceLT, Nat.reduceLeDiff, Nat.reduceEqDiff, Nat.reduceBEq, Nat.reduceDiv, Int.reduceLT, Int.reduceLE, Int.reduceToNat, Int.reduceNeg, Int.reduceEq, ↓reduceIte, reduceCtorEq, ↓reduceDIte]
    exact ih
theorem to_EntryS (xs : List (Ty.Den (.agg (.cons (.int .i64) (.cons .bool (.cons .bool (.cons .bool .nil))))))) (hb : xs.length ≤ 1000000000000) : callOf pr 121 [.d (.slice (.agg (.cons (.int .i64) (.cons .bool (.cons .bool (.cons .bool .nil)))))) xs] [] = some (.os (.t 448), [(448, .arr true false (.agg (.cons (.int .i64) (.cons .bool (.cons .bool (.cons .bool .nil))))) xs)]) := by
  have h := tol_EntryS xs [] (by simp only [List.length_nil, wide]; omega)
  simp only [List.nil_append, List.length_nil] at h
  have h : loopOf pr 121 0 ⟨[(0, .d (.slice (.agg (.cons (.int .i64) (.cons .bool (.cons .bool (.cons .bool .nil)))))) xs), (3, .os (.t 448)), (4, I 0)], [(448, .arr true false (.agg (.cons (.int .i64) (.cons .bool (.cons .bool (.cons .bool .nil))))) (List.replicate xs.length ((0 : Int), false, false, false, ())))]⟩ = _ := h
  have h1 : (((16 : Nat) : Int) * (xs.length : Int) ≤ 140737488355328) = True := by simp; omega
  have h2 : ((xs.length : Int) ≤ 9223372036854775807) = True := by simp; omega
  rw [call_eq pr 121 _ _ Tryz.f121 fn_121 _ rfl _ ann_121 rfl]
  simp -implicitDefEqProofs only [zero_le_cast, Int.le_refl, h1, h2, Int.toNat_natCast, h, go_sem, Nat.reduceAdd, Nat.reduceSub, Nat.reduceMul, Nat.reduceMod, Nat.reduceLT, Nat.reduceLeDiff, Nat.reduceEqDiff, Nat.reduceBEq, Nat.reduceDiv, Int.reduceLT, Int.reduceLE, Int.reduceToNat, Int.reduceNeg, Int.reduceEq, ↓reduceIte, reduceCtorEq, ↓reduceDIte]

theorem tol_EntrySS (xs : List (Ty.Den (.slice (.agg (.cons (.int .i64) (.cons .bool (.cons .bool (.cons .bool .nil)))))))) : ∀ (done : List (Ty.Den (.slice (.agg (.cons (.int .i64) (.cons .bool (.cons .bool (.cons .bool .nil)))))))), done.length + xs.length ≤ wide → (∀ x ∈ xs, x.length ≤ 1000000000000) →
    loopOf pr 69 0 ⟨[(0, .d (.slice (.slice (.agg (.cons (.int .i64) (.cons .bool (.cons .bool (.cons .bool .nil))))))) (done ++ xs)), (3, .os (.t 448)), (4, I done.length)], [(448, .arr true true (.slice (.agg (.cons (.int .i64) (.cons .bool (.cons .bool (.cons .bool .nil)))))) (done ++ List.replicate xs.length ([] : List (Ty.Den (.agg (.cons (.int .i64) (.cons .bool (.cons .bool (.cons .bool .nil)))))))))]⟩ = some (.exit 0, ⟨[(0, .d (.slice (.slice (.agg (.cons (.int .i64) (.cons .bool (.cons .bool (.cons .bool .nil))))))) (done ++ xs)), (3, .os (.t 448)), (4, I ((done.length + xs.length : Nat) : Int))], [(448, .arr true true (.slice (.agg (.cons (.int .i64) (.cons .bool (.cons .bool (.cons .bool .nil)))))) (done ++ xs))]⟩) := by
  induction xs with
  | nil =>
    intro done hb hx
    rw [loop_eq pr 69 0 _ Tryz.f69 fn_69 _ rfl _ ann_69 _ rfl]
    simp -implicitDefEqProofs only [Int.lt_irrefl, List.append_nil, Nat.add_zero, go_sem, Nat.reduceAdd, Nat.reduceSub, Nat.reduceMul, Nat.reduceMod, Nat.reduceLT, Nat.reduceLeDiff, Nat.reduceEqDiff, Nat.reduceBEq, Nat.reduceDiv, Int.reduceLT, Int.reduceLE, Int.reduceToNat, Int.reduceNeg, Int.reduceEq, ↓reduceIte, reduceCtorEq, ↓reduceDIte]
  | cons x xs ih =>
    intro done hb hx
    simp only [List.length_cons, wide] at hb
    have hn : IntKind.i64.wrap ((done.length : Int) + 1) = ((done.length + 1 : Nat) : Int) := by rw [wrap_i] <;> omega
    have ih := ih (done ++ [x]) (by simp only [List.length_append, List.length_cons, List.length_nil, wide]; omega) (fun y hy => hx y (by simp [hy]))
    have e1 : (done ++ [x]).length = done.length + 1 := by simp
    have e2 : done.length + 1 + xs.length = done.length + (x :: xs).length := by simp; omega
    have e3 : List.replicate (x :: xs).length ([] : List (Ty.Den (.agg (.cons (.int .i64) (.cons .bool (.cons .bool (.cons .bool .nil))))))) = ([] : List (Ty.Den (.agg (.cons (.int .i64) (.cons .bool (.cons .bool (.cons .bool .nil))))))) :: List.replicate xs.length ([] : List (Ty.Den (.agg (.cons (.int .i64) (.cons .bool (.cons .bool (.cons .bool .nil))))))) := rfl
    rw [app_one, app_one, e1, e2] at ih
    rw [e3]
    rw [loop_eq pr 69 0 _ Tryz.f69 fn_69 _ rfl _ ann_69 _ rfl]
    simp -implicitDefEqProofs only [getD_app, set_app, lt_app, ltn_app, zero_le_cast, Int.toNat_natCast, hn, to_EntryS x (hx x (by simp)), go_sem, Nat.reduceAdd, Nat.reduceSub, Nat.reduceMul, Nat.reduceMod, Nat.reduceLT, Nat.reduceLeDiff, Nat.reduceEqDiff, Nat.reduceBEq, Nat.reduceDiv, Int.reduceLT, Int.reduceLE, Int.reduceToNat, Int.reduceNeg, Int.reduceEq, ↓reduceIte, reduceCtorEq, ↓reduceDIte]
    exact ih
theorem to_EntrySS (xs : List (Ty.Den (.slice (.agg (.cons (.int .i64) (.cons .bool (.cons .bool (.cons .bool .nil)))))))) (hb : xs.length ≤ 1000000000000) (hx : ∀ x ∈ xs, x.length ≤ 1000000000000) : callOf pr 69 [.d (.slice (.slice (.agg (.cons (.int .i64) (.cons .bool (.cons .bool (.cons .bool .nil))))))) xs] [] = some (.os (.t 448), [(448, .arr true true (.slice (.agg (.cons (.int .i64) (.cons .bool (.cons .bool (.cons .bool .nil)))))) xs)]) := by
  have h := tol_EntrySS xs [] (by simp only [List.length_nil, wide]; omega) hx
  simp only [List.nil_append, List.length_nil] at h
  have h : loopOf pr 69 0 ⟨[(0, .d (.slice (.slice (.agg (.cons (.int .i64) (.cons .bool (.cons .bool (.cons .bool .nil))))))) xs), (3, .os (.t 448)), (4, I 0)], [(448, .arr true true (.slice (.agg (.cons (.int .i64) (.cons .bool (.cons .bool (.cons .bool .nil)))))) (List.replicate xs.length ([] : List (Ty.Den (.agg (.cons (.int .i64) (.cons .bool (.cons .bool (.cons .bool .nil)))))))))]⟩ = _ := h
  have h1 : (((24 : Nat) : Int) * (xs.length : Int) ≤ 140737488355328) = True := by simp; omega
  have h2 : ((xs.length : Int) ≤ 9223372036854775807) = True := by simp; omega
  rw [call_eq pr 69 _ _ Tryz.f69 fn_69 _ rfl _ ann_69 rfl]
  simp -implicitDefEqProofs only [zero_le_cast, Int.le_refl, h1, h2, Int.toNat_natCast, h, go_sem, Nat.reduceAdd, Nat.reduceSub, Nat.reduceMul, Nat.reduceMod, Nat.reduceLT, Nat.reduceLeDiff, Nat.reduceEqDiff, Nat.reduceBEq, Nat.reduceDiv, Int.reduceLT, Int.reduceLE, Int.reduceToNat, Int.reduceNeg, Int.reduceEq, ↓reduceIte, reduceCtorEq, ↓reduceDIte]

theorem to_Cached (x : Ty.Den (.agg (.cons (.int .i64) (.cons (.int .i64) (.cons .bool .nil))))) : callOf pr 122 [.agg [I x.1, I x.2.1, B x.2.2.1]] [] = some (.agg [I x.1, I x.2.1, B x.2.2.1], []) := by
  rw [call_eq pr 122 _ _ Tryz.f122 fn_122 _ rfl _ ann_122 rfl]
  simp -implicitDefEqProofs only [go_sem, Nat.reduceAdd, Nat.reduceSub, Nat.reduceMul, Nat.reduceMod, Nat.reduceLT, Nat.reduceLeDiff, Nat.reduceEqDiff, Nat.reduceBEq, Nat.reduceDiv, Int.reduceLT, Int.reduceLE, Int.reduceToNat, Int.reduceNeg, Int.reduceEq, ↓reduceIte, reduceCtorEq, ↓reduceDIte]

theorem tol_CachedS (xs : List (Ty.Den (.agg (.cons (.int .i64) (.cons (.int .i64) (.cons .bool .nil)))))) : ∀ (done : List (Ty.Den (.agg (.cons (.int .i64) (.cons (.int .i64) (.cons .bool .nil)))))), done.length + xs.length ≤ wide →
    loopOf pr 70 0 ⟨[(0, .d (.slice (.agg (.cons (.int .i64) (.cons (.int .i64) (.cons .bool .nil))))) (done ++ xs)), (3, .os (.t 448)), (4, I done.length)], [(448, .arr true false (.agg (.cons (.int .i64) (.cons (.int .i64) (.cons .bool .nil)))) (done ++ List.replicate xs.length ((0 : Int), (0 : Int), false, ())))]⟩ = some (.exit 0, ⟨[(0, .d (.slice (.agg (.cons (.int .i64) (.cons (.int .i64) (.cons .bool .nil))))) (done ++ xs)), (3, .os (.t 448)), (4, I ((done.length + xs.length : Nat) : Int))], [(448, .arr true false (.agg (.cons (.int .i64) (.cons (.int .i64) (.cons .bool .nil)))) (done ++ xs))]⟩) := by
  induction xs with
  | nil =>
    intro done hb
    rw [loop_eq pr 70 0 _ Tryz.f70 fn_70 _ rfl _ ann_70 _ rfl]
    simp -implicitDefEqProofs only [Int.lt_irrefl, List.append_nil, Nat.add_zero, go_sem, Nat.reduceAdd, Nat.reduceSub, Nat.reduceMul, Nat.reduceMod, Nat.reduceLT, Nat.reduceLeDiff, Nat.reduceEqDiff, Nat.reduceBEq, Nat.reduceDiv, Int.reduceLT, Int.reduceLE, Int.reduceToNat, Int.reduceNeg, Int.reduceEq, ↓reduceIte, reduceCtorEq, ↓reduceDIte]
  | cons x xs ih =>
    intro done hb
    simp only [List.length_cons, wide] at hb
    have hn : IntKind.i64.wrap ((done.length : Int) + 1) = ((done.length + 1 : Nat) : Int) := by rw [wrap_i] <;> omega
    have ih := ih (done ++ [x]) (by simp only [List.length_append, List.length_cons, List.length_nil, wide]; omega)
    have e1 : (done ++ [x]).length = done.length + 1 := by simp
    have e2 : done.length + 1 + xs.length = done.length + (x :: xs).length := by simp; omega
    have e3 : List.replicate (x :: xs).length ((0 : Int), (0 : Int), false, ()) = ((0 : Int), (0 : Int), false, ()) :: List.replicate xs.length ((0 : Int), (0 : Int), false, ()) := rfl
    rw [app_one, app_one, e1, e2] at ih
    rw [e3]
    rw [loop_eq pr 70 0 _ Tryz.f70 fn_70 _ rfl _ ann_70 _ rfl]
    obtain ⟨a0, a1, a2, ⟨⟩⟩ := x
    simp -implicitDefEqProofs only [getD_app, set_app, lt_app, ltn_app, zero_le_cast, Int.toNat_natCast, hn, to_Cached ((a0, a1, a2, ())), go_sem, Nat.reduceAdd, Nat.reduceSub, Nat.reduceMul, Nat.reduceMod, Nat.reduceLT, Nat.reduceLeDiff, Nat.reduceEqDiff, Nat.reduceBEq, Nat.reduceDiv, Int.reduceLT, Int.reduceLE, Int.reduceToNat, Int.reduceNeg, Int.reduceEq, ↓reduceIte, reduceCtorEq, ↓reduceDIte]
    exact ih
theorem to_CachedS (xs : List (Ty.Den (.agg (.cons (.int .i64) (.cons (.int .i64) (.cons .bool .nil)))))) (hb : xs.length ≤ 1000000000000) : callOf pr 70 [.d (.slice (.agg (.cons (.int .i64) (.cons (.int .i64) (.cons .bool .nil))))) xs] [] = some (.os (.t 448), [(448, .arr true false (.agg (.cons (.int .i64) (.cons (.int .i64) (.cons .bool .nil)))) xs)]) := by
  have h := tol_CachedS xs [] (by simp only [List.length_nil, wide]; omega)
  simp only [List.nil_append, List.length_nil] at h
  have h : loopOf pr 70 0 ⟨[(0, .d (.slice (.agg (.cons (.int .i64) (.cons (.int .i64) (.cons .bool .nil))))) xs), (3, .os (.t 448)), (4, I 0)], [(448, .arr true false (.agg (.cons (.int .i64) (.cons (.int .i64) (.cons .bool .nil)))) (List.replicate xs.length ((0 : Int), (0 : Int), false, ())))]⟩ = _ := h
  have h1 : (((24 : Nat) : Int) * (xs.length : Int) ≤ 140737488355328) = True := by simp; omega
  have h2 : ((xs.length : Int) ≤ 9223372036854775807) = True := by simp; omega
  rw [call_eq pr 70 _ _ Tryz.f70 fn_70 _ rfl _ ann_70 rfl]
  simp -implicitDefEqProofs only [zero_le_cast, Int.le_refl, h1, h2, Int.toNat_natCast, h, go_sem, Nat.reduceAdd, Nat.reduceSub, Nat.reduceMul, Nat.reduceMod, Nat.reduceLT, Nat.reduceLeDiff, Nat.reduceEqDiff, Nat.reduceBEq, Nat.reduceDiv, Int.reduceLT, Int.reduceLE, Int.reduceToNat, Int.reduceNeg, Int.reduceEq, ↓reduceIte, reduceCtorEq, ↓reduceDIte]

theorem to_Space (x : Ty.Den (.agg (.cons (.slice (.int .i64)) (.cons (.slice (.slice (.agg (.cons (.int .i64) (.cons .bool (.cons .bool (.cons .bool .nil))))))) (.cons (.slice (.agg (.cons (.int .i64) (.cons (.int .i64) (.cons .bool .nil))))) .nil))))) (ha : Bd small (.agg (.cons (.slice (.int .i64)) (.cons (.slice (.slice (.agg (.cons (.int .i64) (.cons .bool (.cons .bool (.cons .bool .nil))))))) (.cons (.slice (.agg (.cons (.int .i64) (.cons (.int .i64) (.cons .bool .nil))))) .nil)))) x) : callOf pr 20 [.agg [.d (.slice (.int .i64)) x.1, .d (.slice (.slice (.agg (.cons (.int .i64) (.cons .bool (.cons .bool (.cons .bool .nil))))))) x.2.1, .d (.slice (.agg (.cons (.int .i64) (.cons (.int .i64) (.cons .bool .nil))))) x.2.2.1]] [] = some (.agg [.os (.t 384), .os (.t 640), .os (.t 896)], [(384, .arr true false (.int .i64) x.1), (640, .arr true true (.slice (.agg (.cons (.int .i64) (.cons .bool (.cons .bool (.cons .bool .nil)))))) x.2.1), (896, .arr true false (.agg (.cons (.int .i64) (.cons (.int .i64) (.cons .bool .nil)))) x.2.2.1)]) := by
  have h0 := to_Int64S x.1 (Nat.le_trans ha.1.1 (by decide))
  have h1 := to_EntrySS x.2.1 (Nat.le_trans ha.2.1.1 (by decide)) (fun y hy => Nat.le_trans (ha.2.1.2 y hy).1 (by decide))
  have h2 := to_CachedS x.2.2.1 (Nat.le_trans ha.2.2.1.1 (by decide))
  rw [call_eq pr 20 _ _ Tryz.f20 fn_20 _ rfl _ ann_20 rfl]
  simp -implicitDefEqProofs only [h0, h1, h2, go_sem, Nat.reduceAdd, Nat.reduceSub, Nat.reduceMul, Nat.reduceMod, Nat.reduceLT, Nat.reduceLeDiff, Nat.reduceEqDiff, Nat.reduceBEq, Nat.reduceDiv, Int.reduceLT, Int.reduceLE, Int.reduceToNat, Int.reduceNeg, Int.reduceEq, ↓reduceIte, reduceCtorEq, ↓reduceDIte]

theorem eql_Int64S (xs : List (Ty.Den (.int .i64))) : ∀ (done : List (Ty.Den (.int .i64))), done.length + xs.length ≤ wide → (∀ x ∈ xs, Bd wide (.int .i64) x) →
    loopOf pr 36 0 ⟨[(0, .d (.slice (.int .i64)) (done ++ xs)), (1, .d (.slice (.int .i64)) (done ++ xs)), (5, I done.length)], []⟩ = some (.exit 0, ⟨[(0, .d (.slice (.int .i64)) (done ++ xs)), (1, .d (.slice (.int .i64)) (done ++ xs)), (5, I ((done.length + xs.length : Nat) : Int))], []⟩) := by
  induction xs with
  | nil =>
    intro done hb hx
    rw [loop_eq pr 36 0 _ Tryz.f36 fn_36 _ rfl _ ann_36 _ rfl]
    simp -implicitDefEqProofs only [Int.lt_irrefl, List.append_nil, Nat.add_zero, go_sem, Nat.reduceAdd, Nat.reduceSub, Nat.reduceMul, Nat.reduceMod, Nat.reduceLT, Nat.reduceLeDiff, Nat.reduceEqDiff, Nat.reduceBEq, Nat.reduceDiv, Int.reduceLT, Int.reduceLE, Int.reduceToNat, Int.reduceNeg, Int.reduceEq, ↓reduceIte, reduceCtorEq, ↓reduceDIte]
  | cons x xs ih =>
    intro done hb hx
    simp only [List.length_cons, wide] at hb
    have hn : IntKind.i64.wrap ((done.length : Int) + 1) = ((done.length + 1 : Nat) : Int) := by rw [wrap_i] <;> omega
    have ih := ih (done ++ [x]) (by simp only [List.length_append, List.length_cons, List.length_nil, wide]; omega) (fun y hy => hx y (by simp [hy]))
    have e1 : (done ++ [x]).length = done.length + 1 := by simp
    have e2 : done.length + 1 + xs.length = done.length + (x :: xs).length := by simp; omega
    rw [app_one, e1, e2] at ih
    rw [loop_eq pr 36 0 _ Tryz.f36 fn_36 _ rfl _ ann_36 _ rfl]
    simp -implicitDefEqProofs only [getD_app, set_app, lt_app, ltn_app, zero_le_cast, Int.toNat_natCast, hn, BEq.rfl, beq_self_eq_true, decide_true, go_sem, Nat.reduceAdd, Nat.reduceSub, Nat.reduceMul, Nat.reduceMod, Nat.reduceLT, Nat.reduceLeDiff, Nat.reduceEqDiff, Nat.reduceBEq, Nat.reduceDiv, Int.reduceLT, Int.reduceLE, Int.reduceToNat, Int.reduceNeg, Int.reduceEq, ↓reduceIte, reduceCtorEq, ↓reduceDIte]
    exact ih
theorem eq_Int64S (xs : List (Ty.Den (.int .i64))) (ha : Bd wide (.slice (.int .i64)) xs) : callOf pr 36 [.d (.slice (.int .i64)) xs, .d (.slice (.int .i64)) xs] [] = some (B true, []) := by
  have h := eql_Int64S xs [] (by rw [List.length_nil, Nat.zero_add]; exact ha.1) ha.2
  simp only [List.nil_append, List.length_nil] at h
  have h : loopOf pr 36 0 ⟨[(0, .d (.slice (.int .i64)) xs), (1, .d (.slice (.int .i64)) xs), (5, I 0)], []⟩ = _ := h
  rw [call_eq pr 36 _ _ Tryz.f36 fn_36 _ rfl _ ann_36 rfl]
  simp -implicitDefEqProofs only [h, go_sem, Nat.reduceAdd, Nat.reduceSub, Nat.reduceMul, Nat.reduceMod, Nat.reduceLT, Nat.reduceLeDiff, Nat.reduceEqDiff, Nat.reduceBEq, Nat.reduceDiv, Int.reduceLT, Int.reduceLE, Int.reduceToNat, Int.reduceNeg, Int.reduceEq, ↓reduceIte, reduceCtorEq, ↓reduceDIte]
theorem eqn_Int64S : callOf pr 36 [.nilS, .nilS] [] = some (B true, []) := by
  have h : loopOf pr 36 0 ⟨[(0, .nilS), (1, .nilS), (5, I 0)], []⟩ = some (.exit 0, ⟨[(0, .nilS), (1, .nilS), (5, I 0)], []⟩) := by
    rw [loop_eq pr 36 0 _ Tryz.f36 fn_36 _ rfl _ ann_36 _ rfl]
    simp -implicitDefEqProofs only [Int.lt_irrefl, go_sem, Nat.reduceAdd, Nat.reduceSub, Nat.reduceMul, Nat.reduceMod, Nat.reduceLT, Nat.reduceLeDiff, Nat.reduceEqDiff, Nat.reduceBEq, Nat.reduceDiv, Int.reduceLT, Int.reduceLE, Int.reduceToNat, Int.reduceNeg, Int.reduceEq, ↓reduceIte, reduceCtorEq, ↓reduceDIte]
  rw [call_eq pr 36 _ _ Tryz.f36 fn_36 _ rfl _ ann_36 rfl]
  simp -implicitDefEqProofs only [h, go_sem, Nat.reduceAdd, Nat.reduceSub, Nat.reduceMul, Nat.reduceMod, Nat.reduceLT, Nat.reduceLeDiff, Nat.reduceEqDiff, Nat.reduceBEq, Nat.reduceDiv, Int.reduceLT, Int.reduceLE, Int.reduceToNat, Int.reduceNeg, Int.reduceEq, ↓reduceIte, reduceCtorEq, ↓reduceDIte]
theorem eqe_Int64S : callOf pr 36 [.nilS, .d (.slice (.int .i64)) ([] : List (Ty.Den (.int .i64)))] [] = some (B true, []) := by
  have h : loopOf pr 36 0 ⟨[(0, .nilS), (1, .d (.slice (.int .i64)) ([] : List (Ty.Den (.int .i64)))), (5, I 0)], []⟩ = some (.exit 0, ⟨[(0, .nilS), (1, .d (.slice (.int .i64)) ([] : List (Ty.Den (.int .i64)))), (5, I 0)], []⟩) := by
    rw [loop_eq pr 36 0 _ Tryz.f36 fn_36 _ rfl _ ann_36 _ rfl]
    simp -implicitDefEqProofs only [Int.lt_irrefl, Int.natCast_zero, go_sem, Nat.reduceAdd, Nat.reduceSub, Nat.reduceMul, Nat.reduceMod, Nat.reduceLT, Nat.reduceLeDiff, Nat.reduceEqDiff, Nat.reduceBEq, Nat.reduceDiv, Int.reduceLT, Int.reduceLE, Int.reduceToNat, Int.reduceNeg, Int.reduceEq, ↓reduceIte, reduceCtorEq, ↓reduceDIte]
  rw [call_eq pr 36 _ _ Tryz.f36 fn_36 _ rfl _ ann_36 rfl]
  simp -implicitDefEqProofs only [h, Int.natCast_zero, go_sem, Nat.reduceAdd, Nat.reduceSub, Nat.reduceMul, Nat.reduceMod, Nat.reduceLT, Nat.reduceLeDiff, Nat.reduceEqDiff, Nat.reduceBEq, Nat.reduceDiv, Int.reduceLT, Int.reduceLE, Int.reduceToNat, Int.reduceNeg, Int.reduceEq, ↓reduceIte, reduceCtorEq, ↓reduceDIte]

theorem eq_Entry (x : Ty.Den (.agg (.cons (.int .i64) (.cons .bool (.cons .bool (.cons .bool .nil)))))) : callOf pr 144 [.agg [I x.1, B x.2.1, B x.2.2.1, B x.2.2.2.1], .agg [I x.1, B x.2.1, B x.2.2.1, B x.2.2.2.1]] [] = some (B true, []) := by
  rw [call_eq pr 144 _ _ Tryz.f144 fn_144 _ rfl _ ann_144 rfl]
  simp -implicitDefEqProofs only [BEq.rfl, beq_self_eq_true, decide_true, go_sem, Nat.reduceAdd, Nat.reduceSub, Nat.reduceMul, Nat.reduceMod, Nat.reduceLT, Nat.reduceLeDiff, Nat.reduceEqDiff, Nat.reduceBEq, Nat.reduceDiv, Int.reduceLT, Int.reduceLE, Int.reduceToNat, Int.reduceNeg, Int.reduceEq, ↓reduceIte, reduceCtorEq, ↓reduceDIte]

theorem eql_EntryS (xs : List (Ty.Den (.agg (.cons (.int .i64) (.cons .bool (.cons .bool (.cons .bool .nil))))))) : ∀ (done : List (Ty.Den (.agg (.cons (.int .i64) (.cons .bool (.cons .bool (.cons .bool .nil))))))), done.length + xs.length ≤ wide → (∀ x ∈ xs, Bd wide (.agg (.cons (.int .i64) (.cons .bool (.cons .bool (.cons .bool .nil))))) x) →
    loopOf pr 126 0 ⟨[(0, .d (.slice (.agg (.cons (.int .i64) (.cons .bool (.cons .bool (.cons .bool .nil)))))) (done ++ xs)), (1, .d (.slice (.agg (.cons (.int .i64) (.cons .bool (.cons .bool (.cons .bool .nil)))))) (done ++ xs)), (5, I done.length)], []⟩ = some (.exit 0, ⟨[(0, .d (.slice (.agg (.cons (.int .i64) (.cons .bool (.cons .bool (.cons .bool .nil)))))) (done ++ xs)), (1, .d (.slice (.agg (.cons (.int .i64) (.cons .bool (.cons .bool (.cons .bool .nil)))))) (done ++ xs)), (5, I ((done.length + xs.length : Nat) : Int))], []⟩) := by
  induction xs with
  | nil =>
    intro done hb hx
    rw [loop_eq pr 126 0 _ Tryz.f126 fn_126 _ rfl _ ann_126 _ rfl]
    simp -implicitDefEqProofs only [Int.lt_irrefl, List.append_nil, Nat.add_zero, go_sem, Nat.reduceAdd, Nat.reduceSub, Nat.reduceMul, Nat.reduceMod, Nat.reduceLT, Nat.reduceLeDiff, Nat.reduceEqDiff, Nat.reduceBEq, Nat.reduceDiv, Int.reduceLT, Int.reduceLE, Int.reduceToNat, Int.reduceNeg, Int.reduceEq, ↓reduceIte, reduceCtorEq, ↓reduceDIte]
  | cons x xs ih =>
    intro done hb hx
    simp only [List.length_cons, wide] at hb
    have hn : IntKind.i64.wrap ((done.length : Int) + 1) = ((done.length + 1 : Nat) : Int) := by rw [wrap_i] <;> omega
    have ih := ih (done ++ [x]) (by simp only [List.length_append, List.length_cons, List.length_nil, wide]; omega) (fun y hy => hx y (by simp [hy]))
    have e1 : (done ++ [x]).length = done.length + 1 := by simp
    have e2 : done.length + 1 + xs.length = done.length + (x :: xs).length := by simp; omega
    rw [app_one, e1, e2] at ih
    rw [loop_eq pr 126 0 _ Tryz.f126 fn_126 _ rfl _ ann_126 _ rfl]
    simp -implicitDefEqProofs only [getD_app, set_app, lt_app, ltn_app, zero_le_cast, Int.toNat_natCast, hn, BEq.rfl, beq_self_eq_true, decide_true, eq_Entry x, go_sem, Nat.reduceAdd, Nat.reduceSub, Nat.reduceMul, Nat.reduceMod, Nat.reduceLT, Nat.reduceLeDiff, Nat.reduceEqDiff, Nat.reduceBEq, Nat.reduceDiv, Int.reduceLT, Int.reduceLE, Int.reduceToNat, Int.reduceNeg, Int.reduceEq, ↓reduceIte, reduceCtorEq, ↓reduceDIte]
    exact ih
theorem eq_EntryS (xs : List (Ty.Den (.agg (.cons (.int .i64) (.cons .bool (.cons .bool (.cons .bool .nil))))))) (ha : Bd wide (.slice (.agg (.cons (.int .i64) (.cons .bool (.cons .bool (.cons .bool .nil)))))) xs) : callOf pr 126 [.d (.slice (.agg (.cons (.int .i64) (.cons .bool (.cons .bool (.cons .bool .nil)))))) xs, .d (.slice (.agg (.cons (.int .i64) (.cons .bool (.cons .bool (.cons .bool .nil)))))) xs] [] = some (B true, []) := by
  have h := eql_EntryS xs [] (by rw [List.length_nil, Nat.zero_add]; exact ha.1) ha.2
  simp only [List.nil_append, List.length_nil] at h
  have h : loopOf pr 126 0 ⟨[(0, .d (.slice (.agg (.cons (.int .i64) (.cons .bool (.cons .bool (.cons .bool .nil)))))) xs), (1, .d (.slice (.agg (.cons (.int .i64) (.cons .bool (.cons .bool (.cons .bool .nil)))))) xs), (5, I 0)], []⟩ = _ := h
  rw [call_eq pr 126 _ _ Tryz.f126 fn_126 _ rfl _ ann_126 rfl]
  simp -implicitDefEqProofs only [h, go_sem, Nat.reduceAdd, Nat.reduceSub, Nat.reduceMul, Nat.reduceMod, Nat.reduceLT, Nat.reduceLeDiff, Nat.reduceEqDiff, Nat.reduceBEq, Nat.reduceDiv, Int.reduceLT, Int.reduceLE, Int.reduceToNat, Int.reduceNeg, Int.reduceEq, ↓reduceIte, reduceCtorEq, ↓reduceDIte]
theorem eqn_EntryS : callOf pr 126 [.nilS, .nilS] [] = some (B true, []) := by
  have h : loopOf pr 126 0 ⟨[(0, .nilS), (1, .nilS), (5, I 0)], []⟩ = some (.exit 0, ⟨[(0, .nilS), (1, .nilS), (5, I 0)], []⟩) := by
    rw [loop_eq pr 126 0 _ Tryz.f126 fn_126 _ rfl _ ann_126 _ rfl]
    simp -implicitDefEqProofs only [Int.lt_irrefl, go_sem, Nat.reduceAdd, Nat.reduceSub, Nat.reduceMul, Nat.reduceMod, Nat.reduceLT, Nat.reduceLeDiff, Nat.reduceEqDiff, Nat.reduceBEq, Nat.reduceDiv, Int.reduceLT, Int.reduceLE, Int.reduceToNat, Int.reduceNeg, Int.reduceEq, ↓reduceIte, reduceCtorEq, ↓reduceDIte]
  rw [call_eq pr 126 _ _ Tryz.f126 fn_126 _ rfl _ ann_126 rfl]
  simp -implicitDefEqProofs only [h, go_sem, Nat.reduceAdd, Nat.reduceSub, Nat.reduceMul, Nat.reduceMod, Nat.reduceLT, Nat.reduceLeDiff, Nat.reduceEqDiff, Nat.reduceBEq, Nat.reduceDiv, Int.reduceLT, Int.reduceLE, Int.reduceToNat, Int.reduceNeg, Int.reduceEq, ↓reduceIte, reduceCtorEq, ↓reduceDIte]
theorem eqe_EntryS : callOf pr 126 [.nilS, .d (.slice (.agg (.cons (.int .i64) (.cons .bool (.cons .bool (.cons .bool .nil)))))) ([] : List (Ty.Den (.agg (.cons (.int .i64) (.cons .bool (.cons .bool (.cons .bool .nil)))))))] [] = some (B true, []) := by
  have h : loopOf pr 126 0 ⟨[(0, .nilS), (1, .d (.slice (.agg (.cons (.int .i64) (.cons .bool (.cons .bool (.cons .bool .nil)))))) ([] : List (Ty.Den (.agg (.cons (.int .i64) (.cons .bool (.cons .bool (.cons .bool .nil)))))))), (5, I 0)], []⟩ = some (.exit 0, ⟨[(0, .nilS), (1, .d (.slice (.agg (.cons (.int .i64) (.cons .bool (.cons .bool (.cons .bool .nil)))))) ([] : List (Ty.Den (.agg (.cons (.int .i64) (.cons .bool (.cons .bool (.cons .bool .nil)))))))), (5, I 0)], []⟩) := by
    rw [loop_eq pr 126 0 _ Tryz.f126 fn_126 _ rfl _ ann_126 _ rfl]
    simp -implicitDefEqProofs only [Int.lt_irrefl, Int.natCast_zero, go_sem, Nat.reduceAdd, Nat.reduceSub, Nat.reduceMul, Nat.reduceMod, Nat.reduceLT, Nat.reduceLeDiff, Nat.reduceEqDiff, Nat.reduceBEq, Nat.reduceDiv, Int.reduceLT, Int.reduceLE, Int.reduceToNat, Int.reduceNeg, Int.reduceEq, ↓reduceIte, reduceCtorEq, ↓reduceDIte]
  rw [call_eq pr 126 _ _ Tryz.f126 fn_126 _ rfl _ ann_126 rfl]
  simp -implicitDefEqProofs only [h, Int.natCast_zero, go_sem, Nat.reduceAdd, Nat.reduceSub, Nat.reduceMul, Nat.reduceMod, Nat.reduceLT, Nat.reduceLeDiff, Nat.reduceEqDiff, Nat.reduceBEq, Nat.reduceDiv, Int.reduceLT, Int.reduceLE, Int.reduceToNat, Int.reduceNeg, Int.reduceEq, ↓reduceIte, reduceCtorEq, ↓reduceDIte]

theorem eql_EntrySS (xs : List (Ty.Den (.slice (.agg (.cons (.int .i64) (.cons .bool (.cons .bool (.cons .bool .nil)))))))) : ∀ (done : List (Ty.Den (.slice (.agg (.cons (.int .i64) (.cons .bool (.cons .bool (.cons .bool .nil)))))))), done.length + xs.length ≤ wide → (∀ x ∈ xs, Bd wide (.slice (.agg (.cons (.int .i64) (.cons .bool (.cons .bool (.cons .bool .nil)))))) x) →
    loopOf pr 77 0 ⟨[(0, .d (.slice (.slice (.agg (.cons (.int .i64) (.cons .bool (.cons .bool (.cons .bool .nil))))))) (done ++ xs)), (1, .d (.slice (.slice (.agg (.cons (.int .i64) (.cons .bool (.cons .bool (.cons .bool .nil))))))) (done ++ xs)), (5, I done.length)], []⟩ = some (.exit 0, ⟨[(0, .d (.slice (.slice (.agg (.cons (.int .i64) (.cons .bool (.cons .bool (.cons .bool .nil))))))) (done ++ xs)), (1, .d (.slice (.slice (.agg (.cons (.int .i64) (.cons .bool (.cons .bool (.cons .bool .nil))))))) (done ++ xs)), (5, I ((done.length + xs.length : Nat) : Int))], []⟩) := by
  induction xs with
  | nil =>
    intro done hb hx
    rw [loop_eq pr 77 0 _ Tryz.f77 fn_77 _ rfl _ ann_77 _ rfl]
    simp -implicitDefEqProofs only [Int.lt_irrefl, List.append_nil, Nat.add_zero, go_sem, Nat.reduceAdd, Nat.reduceSub, Nat.reduceMul, Nat.reduceMod, Nat.reduceLT, Nat.reduceLeDiff, Nat.reduceEqDiff, Nat.reduceBEq, Nat.reduceDiv, Int.reduceLT, Int.reduceLE, Int.reduceToNat, Int.reduceNeg, Int.reduceEq, ↓reduceIte, reduceCtorEq, ↓reduceDIte]
  | cons x xs ih =>
    intro done hb hx
    simp only [List.length_cons, wide] at hb
    have hn : IntKind.i64.wrap ((done.length : Int) + 1) = ((done.length + 1 : Nat) : Int) := by rw [wrap_i] <;> omega
    have ih := ih (done ++ [x]) (by simp only [List.length_append, List.length_cons, List.length_nil, wide]; omega) (fun y hy => hx y (by simp [hy]))
    have e1 : (done ++ [x]).length = done.length + 1 := by simp
    have e2 : done.length + 1 + xs.length = done.length + (x :: xs).length := by simp; omega
    rw [app_one, e1, e2] at ih
    rw [loop_eq pr 77 0 _ Tryz.f77 fn_77 _ rfl _ ann_77 _ rfl]
    simp -implicitDefEqProofs only [getD_app, set_app, lt_app, ltn_app, zero_le_cast, Int.toNat_natCast, hn, BEq.rfl, beq_self_eq_true, decide_true, eq_EntryS x (hx x (by simp)), go_sem, Nat.reduceAdd, Nat.reduceSub, Nat.reduceMul, Nat.reduceMod, Nat.reduceLT, Nat.reduceLeDiff, Nat.reduceEqDiff, Nat.reduceBEq, Nat.reduceDiv, Int.reduceLT, Int.reduceLE, Int.reduceToNat, Int.reduceNeg, Int.reduceEq, ↓reduceIte, reduceCtorEq, ↓reduceDIte]
    exact ih
theorem eq_EntrySS (xs : List (Ty.Den (.slice (.agg (.cons (.int .i64) (.cons .bool (.cons .bool (.cons .bool .nil)))))))) (ha : Bd wide (.slice (.slice (.agg (.cons (.int .i64) (.cons .bool (.cons .bool (.cons .bool .nil))))))) xs) : callOf pr 77 [.d (.slice (.slice (.agg (.cons (.int .i64) (.cons .bool (.cons .bool (.cons .bool .nil))))))) xs, .d (.slice (.slice (.agg (.cons (.int .i64) (.cons .bool (.cons .bool (.cons .bool .nil))))))) xs] [] = some (B true, []) := by
  have h := eql_EntrySS xs [] (by rw [List.length_nil, Nat.zero_add]; exact ha.1) ha.2
  simp only [List.nil_append, List.length_nil] at h
  have h : loopOf pr 77 0 ⟨[(0, .d (.slice (.slice (.agg (.cons (.int .i64) (.cons .bool (.cons .bool (.cons .bool .nil))))))) xs), (1, .d (.slice (.slice (.agg (.cons (.int .i64) (.cons .bool (.cons .bool (.cons .bool .nil))))))) xs), (5, I 0)], []⟩ = _ := h
  rw [call_eq pr 77 _ _ Tryz.f77 fn_77 _ rfl _ ann_77 rfl]
  simp -implicitDefEqProofs only [h, go_sem, Nat.reduceAdd, Nat.reduceSub, Nat.reduceMul, Nat.reduceMod, Nat.reduceLT, Nat.reduceLeDiff, Nat.reduceEqDiff, Nat.reduceBEq, Nat.reduceDiv, Int.reduceLT, Int.reduceLE, Int.reduceToNat, Int.reduceNeg, Int.reduceEq, ↓reduceIte, reduceCtorEq, ↓reduceDIte]
theorem eqn_EntrySS : callOf pr 77 [.nilS, .nilS] [] = some (B true, []) := by
  have h : loopOf pr 77 0 ⟨[(0, .nilS), (1, .nilS), (5, I 0)], []⟩ = some (.exit 0, ⟨[(0, .nilS), (1, .nilS), (5, I 0)], []⟩) := by
    rw [loop_eq pr 77 0 _ Tryz.f77 fn_77 _ rfl _ ann_77 _ rfl]
    simp -implicitDefEqProofs only [Int.lt_irrefl, go_sem, Nat.reduceAdd, Nat.reduceSub, Nat.reduceMul, Nat.reduceMod, Nat.reduceLT, Nat.reduceLeDiff, Nat.reduceEqDiff, Nat.reduceBEq, Nat.reduceDiv, Int.reduceLT, Int.reduceLE, Int.reduceToNat, Int.reduceNeg, Int.reduceEq, ↓reduceIte, reduceCtorEq, ↓reduceDIte]
  rw [call_eq pr 77 _ _ Tryz.f77 fn_77 _ rfl _ ann_77 rfl]
  simp -implicitDefEqProofs only [h, go_sem, Nat.reduceAdd, Nat.reduceSub, Nat.reduceMul, Nat.reduceMod, Nat.reduceLT, Nat.reduceLeDiff, Nat.reduceEqDiff, Nat.reduceBEq, Nat.reduceDiv, Int.reduceLT, Int.reduceLE, Int.reduceToNat, Int.reduceNeg, Int.reduceEq, ↓reduceIte, reduceCtorEq, ↓reduceDIte]
theorem eqe_EntrySS : callOf pr 77 [.nilS, .d (.slice (.slice (.agg (.cons (.int .i64) (.cons .bool (.cons .bool (.cons .bool .nil))))))) ([] : List (Ty.Den (.slice (.agg (.cons (.int .i64) (.cons .bool (.cons .bool (.cons .bool .nil))))))))] [] = some (B true, []) := by
  have h : loopOf pr 77 0 ⟨[(0, .nilS), (1, .d (.slice (.slice (.agg (.cons (.int .i64) (.cons .bool (.cons .bool (.cons .bool .nil))))))) ([] : List (Ty.Den (.slice (.agg (.cons (.int .i64) (.cons .bool (.cons .bool (.cons .bool .nil))))))))), (5, I 0)], []⟩ = some (.exit 0, ⟨[(0, .nilS), (1, .d (.slice (.slice (.agg (.cons (.int .i64) (.cons .bool (.cons .bool (.cons .bool .nil))))))) ([] : List (Ty.Den (.slice (.agg (.cons (.int .i64) (.cons .bool (.cons .bool (.cons .bool .nil))))))))), (5, I 0)], []⟩) := by
    rw [loop_eq pr 77 0 _ Tryz.f77 fn_77 _ rfl _ ann_77 _ rfl]
    simp -implicitDefEqProofs only [Int.lt_irrefl, Int.natCast_zero, go_sem, Nat.reduceAdd, Nat.reduceSub, Nat.reduceMul, Nat.reduceMod, Nat.reduceLT, Nat.reduceLeDiff, Nat.reduceEqDiff, Nat.reduceBEq, Nat.reduceDiv, Int.reduceLT, Int.reduceLE, Int.reduceToNat, Int.reduceNeg, Int.reduceEq, ↓reduceIte, reduceCtorEq, ↓reduceDIte]
  rw [call_eq pr 77 _ _ Tryz.f77 fn_77 _ rfl _ ann_77 rfl]
  simp -implicitDefEqProofs only [h, Int.natCast_zero, go_sem, Nat.reduceAdd, Nat.reduceSub, Nat.reduceMul, Nat.reduceMod, Nat.reduceLT, Nat.reduceLeDiff, Nat.reduceEqDiff, Nat.reduceBEq, Nat.reduceDiv, Int.reduceLT, Int.reduceLE, Int.reduceToNat, Int.reduceNeg, Int.reduceEq, ↓reduceIte, reduceCtorEq, ↓reduceDIte]

theorem eq_Cached (x : Ty.Den (.agg (.cons (.int .i64) (.cons (.int .i64) (.cons .bool .nil))))) : callOf pr 127 [.agg [I x.1, I x.2.1, B x.2.2.1], .agg [I x.1, I x.2.1, B x.2.2.1]] [] = some (B true, []) := by
  rw [call_eq pr 127 _ _ Tryz.f127 fn_127 _ rfl _ ann_127 rfl]
  simp -implicitDefEqProofs only [BEq.rfl, beq_self_eq_true, decide_true, go_sem, Nat.reduceAdd, Nat.reduceSub, Nat.reduceMul, Nat.reduceMod, Nat.reduceLT, Nat.reduceLeDiff, Nat.reduceEqDiff, Nat.reduceBEq, Nat.reduceDiv, Int.reduceLT, Int.reduceLE, Int.reduceToNat, Int.reduceNeg, Int.reduceEq, ↓reduceIte, reduceCtorEq, ↓reduceDIte]

theorem eql_CachedS (xs : List (Ty.Den (.agg (.cons (.int .i64) (.cons (.int .i64) (.cons .bool .nil)))))) : ∀ (done : List (Ty.Den (.agg (.cons (.int .i64) (.cons (.int .i64) (.cons .bool .nil)))))), done.length + xs.length ≤ wide → (∀ x ∈ xs, Bd wide (.agg (.cons (.int .i64) (.cons (.int .i64) (.cons .bool .nil)))) x) →
    loopOf pr 78 0 ⟨[(0, .d (.slice (.agg (.cons (.int .i64) (.cons (.int .i64) (.cons .bool .nil))))) (done ++ xs)), (1, .d (.slice (.agg (.cons (.int .i64) (.cons (.int .i64) (.cons .bool .nil))))) (done ++ xs)), (5, I done.length)], []⟩ = some (.exit 0, ⟨[(0, .d (.slice (.agg (.cons (.int .i64) (.cons (.int .i64) (.cons .bool .nil))))) (done ++ xs)), (1, .d (.slice (.agg (.cons (.int .i64) (.cons (.int .i64) (.cons .bool .nil))))) (done ++ xs)), (5, I ((done.length + xs.length : Nat) : Int))], []⟩) := by
  induction xs with
  | nil =>
    intro done hb hx
    rw [loop_eq pr 78 0 _ Tryz.f78 fn_78 _ rfl _ ann_78 _ rfl]
    simp -implicitDefEqProofs only [Int.lt_irrefl, List.append_nil, Nat.add_zero, go_sem, Nat.reduceAdd, Nat.reduceSub, Nat.reduceMul, Nat.reduceMod, Nat.reduceLT, Nat.reduceLeDiff, Nat.reduceEqDiff, Nat.reduceBEq, Nat.reduceDiv, Int.reduceLT, Int.reduceLE, Int.reduceToNat, Int.reduceNeg, Int.reduceEq, ↓reduceIte, reduceCtorEq, ↓reduceDIte]
  | cons x xs ih =>
    intro done hb hx
    simp only [List.length_cons, wide] at hb
    have hn : IntKind.i64.wrap ((done.length : Int) + 1) = ((done.length + 1 : Nat) : Int) := by rw [wrap_i] <;> omega
    have ih := ih (done ++ [x]) (by simp only [List.length_append, List.length_cons, List.length_nil, wide]; omega) (fun y hy => hx y (by simp [hy]))
    have e1 : (done ++ [x]).length = done.length + 1 := by simp
    have e2 : done.length + 1 + xs.length = done.length + (x :: xs).length := by simp; omega
    rw [app_one, e1, e2] at ih
    rw [loop_eq pr 78 0 _ Tryz.f78 fn_78 _ rfl _ ann_78 _ rfl]
    simp -implicitDefEqProofs only [getD_app, set_app, lt_app, ltn_app, zero_le_cast, Int.toNat_natCast, hn, BEq.rfl, beq_self_eq_true, decide_true, eq_Cached x, go_sem, Nat.reduceAdd, Nat.reduceSub, Nat.reduceMul, Nat.reduceMod, Nat.reduceLT, Nat.reduceLeDiff, Nat.reduceEqDiff, Nat.reduceBEq, Nat.reduceDiv, Int.reduceLT, Int.reduceLE, Int.reduceToNat, Int.reduceNeg, Int.reduceEq, ↓reduceIte, reduceCtorEq, ↓reduceDIte]
    exact ih
theorem eq_CachedS (xs : List (Ty.Den (.agg (.cons (.int .i64) (.cons (.int .i64) (.cons .bool .nil)))))) (ha : Bd wide (.slice (.agg (.cons (.int .i64) (.cons (.int .i64) (.cons .bool .nil))))) xs) : callOf pr 78 [.d (.slice (.agg (.cons (.int .i64) (.cons (.int .i64) (.cons .bool .nil))))) xs, .d (.slice (.agg (.cons (.int .i64) (.cons (.int .i64) (.cons .bool .nil))))) xs] [] = some (B true, []) := by
  have h := eql_CachedS xs [] (by rw [List.length_nil, Nat.zero_add]; exact ha.1) ha.2
  simp only [List.nil_append, List.length_nil] at h
  have h : loopOf pr 78 0 ⟨[(0, .d (.slice (.agg (.cons (.int .i64) (.cons (.int .i64) (.cons .bool .nil))))) xs), (1, .d (.slice (.agg (.cons (.int .i64) (.cons (.int .i64) (.cons .bool .nil))))) xs), (5, I 0)], []⟩ = _ := h
  rw [call_eq pr 78 _ _ Tryz.f78 fn_78 _ rfl _ ann_78 rfl]
  simp -implicitDefEqProofs only [h, go_sem, Nat.reduceAdd, Nat.reduceSub, Nat.reduceMul, Nat.reduceMod, Nat.reduceLT, Nat.reduceLeDiff, Nat.reduceEqDiff, Nat.reduceBEq, Nat.reduceDiv, Int.reduceLT, Int.reduceLE, Int.reduceToNat, Int.reduceNeg, Int.reduceEq, ↓reduceIte, reduceCtorEq, ↓reduceDIte]
theorem eqn_CachedS : callOf pr 78 [.nilS, .nilS] [] = some (B true, []) := by
  have h : loopOf pr 78 0 ⟨[(0, .nilS), (1, .nilS), (5, I 0)], []⟩ = some (.exit 0, ⟨[(0, .nilS), (1, .nilS), (5, I 0)], []⟩) := by
    rw [loop_eq pr 78 0 _ Tryz.f78 fn_78 _ rfl _ ann_78 _ rfl]
    simp -implicitDefEqProofs only [Int.lt_irrefl, go_sem, Nat.reduceAdd, Nat.reduceSub, Nat.reduceMul, Nat.reduceMod, Nat.reduceLT, Nat.reduceLeDiff, Nat.reduceEqDiff, Nat.reduceBEq, Nat.reduceDiv, Int.reduceLT, Int.reduceLE, Int.reduceToNat, Int.reduceNeg, Int.reduceEq, ↓reduceIte, reduceCtorEq, ↓reduceDIte]
  rw [call_eq pr 78 _ _ Tryz.f78 fn_78 _ rfl _ ann_78 rfl]
  simp -implicitDefEqProofs only [h, go_sem, Nat.reduceAdd, Nat.reduceSub, Nat.reduceMul, Nat.reduceMod, Nat.reduceLT, Nat.reduceLeDiff, Nat.reduceEqDiff, Nat.reduceBEq, Nat.reduceDiv, Int.reduceLT, Int.reduceLE, Int.reduceToNat, Int.reduceNeg, Int.reduceEq, ↓reduceIte, reduceCtorEq, ↓reduceDIte]
theorem eqe_CachedS : callOf pr 78 [.nilS, .d (.slice (.agg (.cons (.int .i64) (.cons (.int .i64) (.cons .bool .nil))))) ([] : List (Ty.Den (.agg (.cons (.int .i64) (.cons (.int .i64) (.cons .bool .nil))))))] [] = some (B true, []) := by
  have h : loopOf pr 78 0 ⟨[(0, .nilS), (1, .d (.slice (.agg (.cons (.int .i64) (.cons (.int .i64) (.cons .bool .nil))))) ([] : List (Ty.Den (.agg (.cons (.int .i64) (.cons (.int .i64) (.cons .bool .nil))))))), (5, I 0)], []⟩ = some (.exit 0, ⟨[(0, .nilS), (1, .d (.slice (.agg (.cons (.int .i64) (.cons (.int .i64) (.cons .bool .nil))))) ([] : List (Ty.Den (.agg (.cons (.int .i64) (.cons (.int .i64) (.cons .bool .nil))))))), (5, I 0)], []⟩) := by
    rw [loop_eq pr 78 0 _ Tryz.f78 fn_78 _ rfl _ ann_78 _ rfl]
    simp -implicitDefEqProofs only [Int.lt_irrefl, Int.natCast_zero, go_sem, Nat.reduceAdd, Nat.reduceSub, Nat.reduceMul, Nat.reduceMod, Nat.reduceLT, Nat.reduceLeDiff, Nat.reduceEqDiff, Nat.reduceBEq, Nat.reduceDiv, Int.reduceLT, Int.reduceLE, Int.reduceToNat, Int.reduceNeg, Int.reduceEq, ↓reduceIte, reduceCtorEq, ↓reduceDIte]
  rw [call_eq pr 78 _ _ Tryz.f78 fn_78 _ rfl _ ann_78 rfl]
  simp -implicitDefEqProofs only [h, Int.natCast_zero, go_sem, Nat.reduceAdd, Nat.reduceSub, Nat.reduceMul, Nat.reduceMod, Nat.reduceLT, Nat.reduceLeDiff, Nat.reduceEqDiff, Nat.reduceBEq, Nat.reduceDiv, Int.reduceLT, Int.reduceLE, Int.reduceToNat, Int.reduceNeg, Int.reduceEq, ↓reduceIte, reduceCtorEq, ↓reduceDIte]

theorem eq_Space (x : Ty.Den (.agg (.cons (.slice (.int .i64)) (.cons (.slice (.slice (.agg (.cons (.int .i64) (.cons .bool (.cons .bool (.cons .bool .nil))))))) (.cons (.slice (.agg (.cons (.int .i64) (.cons (.int .i64) (.cons .bool .nil))))) .nil))))) (ha : Bd wide (.agg (.cons (.slice (.int .i64)) (.cons (.slice (.slice (.agg (.cons (.int .i64) (.cons .bool (.cons .bool (.cons .bool .nil))))))) (.cons (.slice (.agg (.cons (.int .i64) (.cons (.int .i64) (.cons .bool .nil))))) .nil)))) x) : callOf pr 22 [.agg [.d (.slice (.int .i64)) x.1, .d (.slice (.slice (.agg (.cons (.int .i64) (.cons .bool (.cons .bool (.cons .bool .nil))))))) x.2.1, .d (.slice (.agg (.cons (.int .i64) (.cons (.int .i64) (.cons .bool .nil))))) x.2.2.1], .agg [.d (.slice (.int .i64)) x.1, .d (.slice (.slice (.agg (.cons (.int .i64) (.cons .bool (.cons .bool (.cons .bool .nil))))))) x.2.1, .d (.slice (.agg (.cons (.int .i64) (.cons (.int .i64) (.cons .bool .nil))))) x.2.2.1]] [] = some (B true, []) := by
  rw [call_eq pr 22 _ _ Tryz.f22 fn_22 _ rfl _ ann_22 rfl]
  simp -implicitDefEqProofs only [BEq.rfl, beq_self_eq_true, decide_true, eq_Int64S x.1 ha.1, eq_EntrySS x.2.1 ha.2.1, eq_CachedS x.2.2.1 ha.2.2.1, go_sem, Nat.reduceAdd, Nat.reduceSub, Nat.reduceMul, Nat.reduceMod, Nat.reduceLT, Nat.reduceLeDiff, Nat.reduceEqDiff, Nat.reduceBEq, Nat.reduceDiv, Int.reduceLT, Int.reduceLE, Int.reduceToNat, Int.reduceNeg, Int.reduceEq, ↓reduceIte, reduceCtorEq, ↓reduceDIte]
theorem eqn_Space : callOf pr 22 [.agg [.nilS, .nilS, .nilS], .agg [.nilS, .nilS, .nilS]] [] = some (B true, []) := by
  rw [call_eq pr 22 _ _ Tryz.f22 fn_22 _ rfl _ ann_22 rfl]
  simp -implicitDefEqProofs only [BEq.rfl, beq_self_eq_true, decide_true, eqn_Int64S, eqn_EntrySS, eqn_CachedS, go_sem, Nat.reduceAdd, Nat.reduceSub, Nat.reduceMul, Nat.reduceMod, Nat.reduceLT, Nat.reduceLeDiff, Nat.reduceEqDiff, Nat.reduceBEq, Nat.reduceDiv, Int.reduceLT, Int.reduceLE, Int.reduceToNat, Int.reduceNeg, Int.reduceEq, ↓reduceIte, reduceCtorEq, ↓reduceDIte]

theorem markl_Int64S (xs : List (Ty.Den (.int .i64))) : ∀ (done : List (Ty.Den (.int .i64))) (m : Int), 0 ≤ m → m + cnt (.slice (.int .i64)) xs ≤ wide → done.length + xs.length ≤ wide →
    loopOf pr 39 0 ⟨[(0, .os (.t 1000000)), (1, I m), (5, I done.length)], [(1000000, .arr false false (.int .i64) (done ++ xs))]⟩ = some (.exit 0, ⟨[(0, .os (.t 1000000)), (1, I (markD (.slice (.int .i64)) m xs).2), (5, I ((done.length + xs.length : Nat) : Int))], [(1000000, .arr false false (.int .i64) (done ++ (markD (.slice (.int .i64)) m xs).1))]⟩) := by
  induction xs with
  | nil =>
    intro done m h0 h1 hb
    rw [loop_eq pr 39 0 _ Tryz.f39 fn_39 _ rfl _ ann_39 _ rfl]
    simp only [markD_slice, markS_nil]
    simp -implicitDefEqProofs only [Int.lt_irrefl, List.append_nil, Nat.add_zero, go_sem, Nat.reduceAdd, Nat.reduceSub, Nat.reduceMul, Nat.reduceMod, Nat.reduceLT, Nat.reduceLeDiff, Nat.reduceEqDiff, Nat.reduceBEq, Nat.reduceDiv, Int.reduceLT, Int.reduceLE, Int.reduceToNat, Int.reduceNeg, Int.reduceEq, ↓reduceIte, reduceCtorEq, ↓reduceDIte]
  | cons x xs ih =>
    intro done m h0 h1 hb
    simp only [List.length_cons, wide] at hb
    have hn : IntKind.i64.wrap ((done.length : Int) + 1) = ((done.length + 1 : Nat) : Int) := by rw [wrap_i] <;> omega
    have hc : cnt (.slice (.int .i64)) (x :: xs) = 1 + cnt (.slice (.int .i64)) xs := by simp [cnt, List.map_cons, List.sum_cons]
    rw [hc] at h1
    simp only [wide] at h1
    have hw0 : IntKind.i64.wrap (m + 1) = m + 1 := by rw [wrap_i] <;> omega
    have ih := ih (done ++ [m]) (m + 1) (by omega) (by simp only [wide]; omega) (by simp only [List.length_append, List.length_cons, List.length_nil, wide]; omega)
    have e1 : (done ++ [m]).length = done.length + 1 := by simp
    have e2 : done.length + 1 + xs.length = done.length + (x :: xs).length := by simp; omega
    rw [app_one, app_one, e1, e2] at ih
    rw [loop_eq pr 39 0 _ Tryz.f39 fn_39 _ rfl _ ann_39 _ rfl]
    simp -implicitDefEqProofs only [getD_app, set_app, lt_app, ltn_app, zero_le_cast, Int.toNat_natCast, hn, hw0, go_sem, Nat.reduceAdd, Nat.reduceSub, Nat.reduceMul, Nat.reduceMod, Nat.reduceLT, Nat.reduceLeDiff, Nat.reduceEqDiff, Nat.reduceBEq, Nat.reduceDiv, Int.reduceLT, Int.reduceLE, Int.reduceToNat, Int.reduceNeg, Int.reduceEq, ↓reduceIte, reduceCtorEq, ↓reduceDIte]
    exact ih
theorem mark_Int64S (xs : List (Ty.Den (.int .i64))) (m : Int) (h0 : 0 ≤ m) (h1 : m + cnt (.slice (.int .i64)) xs ≤ wide) (hb : xs.length ≤ wide) : callOf pr 39 [.os (.t 1000000), I m] [(1000000, .arr false false (.int .i64) xs)] = some (I (markD (.slice (.int .i64)) m xs).2, [(1000000, .arr false false (.int .i64) (markD (.slice (.int .i64)) m xs).1)]) := by
  have h := markl_Int64S xs [] m h0 h1 (by rw [List.length_nil, Nat.zero_add]; exact hb)
  simp only [List.nil_append, List.length_nil] at h
  have h : loopOf pr 39 0 ⟨[(0, .os (.t 1000000)), (1, I m), (5, I 0)], [(1000000, .arr false false (.int .i64) xs)]⟩ = _ := h
  rw [call_eq pr 39 _ _ Tryz.f39 fn_39 _ rfl _ ann_39 rfl]
  simp -implicitDefEqProofs only [h, go_sem, Nat.reduceAdd, Nat.reduceSub, Nat.reduceMul, Nat.reduceMod, Nat.reduceLT, Nat.reduceLeDiff, Nat.reduceEqDiff, Nat.reduceBEq, Nat.reduceDiv, Int.reduceLT, Int.reduceLE, Int.reduceToNat, Int.reduceNeg, Int.reduceEq, ↓reduceIte, reduceCtorEq, ↓reduceDIte]
theorem markn_Int64S (m : Int) : callOf pr 39 [.nilS, I m] [] = some (I m, []) := by
  have h : loopOf pr 39 0 ⟨[(0, .nilS), (1, I m), (5, I 0)], []⟩ = some (.exit 0, ⟨[(0, .nilS), (1, I m), (5, I 0)], []⟩) := by
    rw [loop_eq pr 39 0 _ Tryz.f39 fn_39 _ rfl _ ann_39 _ rfl]
    simp -implicitDefEqProofs only [Int.lt_irrefl, go_sem, Nat.reduceAdd, Nat.reduceSub, Nat.reduceMul, Nat.reduceMod, Nat.reduceLT, Nat.reduceLeDiff, Nat.reduceEqDiff, Nat.reduceBEq, Nat.reduceDiv, Int.reduceLT, Int.reduceLE, Int.reduceToNat, Int.reduceNeg, Int.reduceEq, ↓reduceIte, reduceCtorEq, ↓reduceDIte]
  rw [call_eq pr 39 _ _ Tryz.f39 fn_39 _ rfl _ ann_39 rfl]
  simp -implicitDefEqProofs only [h, go_sem, Nat.reduceAdd, Nat.reduceSub, Nat.reduceMul, Nat.reduceMod, Nat.reduceLT, Nat.reduceLeDiff, Nat.reduceEqDiff, Nat.reduceBEq, Nat.reduceDiv, Int.reduceLT, Int.reduceLE, Int.reduceToNat, Int.reduceNeg, Int.reduceEq, ↓reduceIte, reduceCtorEq, ↓reduceDIte]

theorem markl_EntryS (xs : List (Ty.Den (.agg (.cons (.int .i64) (.cons .bool (.cons .bool (.cons .bool .nil))))))) : ∀ (done : List (Ty.Den (.agg (.cons (.int .i64) (.cons .bool (.cons .bool (.cons .bool .nil))))))) (m : Int), 0 ≤ m → m + cnt (.slice (.agg (.cons (.int .i64) (.cons .bool (.cons .bool (.cons .bool .nil)))))) xs ≤ wide → done.length + xs.length ≤ wide →
    loopOf pr 128 0 ⟨[(0, .os (.t 1000000)), (1, I m), (5, I done.length)], [(1000000, .arr false false (.agg (.cons (.int .i64) (.cons .bool (.cons .bool (.cons .bool .nil))))) (done ++ xs))]⟩ = some (.exit 0, ⟨[(0, .os (.t 1000000)), (1, I (markD (.slice (.agg (.cons (.int .i64) (.cons .bool (.cons .bool (.cons .bool .nil)))))) m xs).2), (5, I ((done.length + xs.length : Nat) : Int))], [(1000000, .arr false false (.agg (.cons (.int .i64) (.cons .bool (.cons .bool (.cons .bool .nil))))) (done ++ (markD (.slice (.agg (.cons (.int .i64) (.cons .bool (.cons .bool (.cons .bool .nil)))))) m xs).1))]⟩) := by
  induction xs with
  | nil =>
    intro done m h0 h1 hb
    rw [loop_eq pr 128 0 _ Tryz.f128 fn_128 _ rfl _ ann_128 _ rfl]
    simp only [markD_slice, markS_nil]
    simp -implicitDefEqProofs only [Int.lt_irrefl, List.append_nil, Nat.add_zero, go_sem, Nat.reduceAdd, Nat.reduceSub, Nat.reduceMul, Nat.reduceMod, Nat.reduceLT, Nat.reduceLeDiff, Nat.reduceEqDiff, Nat.reduceBEq, Nat.reduceDiv, Int.reduceLT, Int.reduceLE, Int.reduceToNat, Int.reduceNeg, Int.reduceEq, ↓reduceIte, reduceCtorEq, ↓reduceDIte]
  | cons x xs ih =>
    intro done m h0 h1 hb
    simp only [List.length_cons, wide] at hb
    have hn : IntKind.i64.wrap ((done.length : Int) + 1) = ((done.length + 1 : Nat) : Int) := by rw [wrap_i] <;> omega
    have hc : cnt (.slice (.agg (.cons (.int .i64) (.cons .bool (.cons .bool (.cons .bool .nil)))))) (x :: xs) = 4 + cnt (.slice (.agg (.cons (.int .i64) (.cons .bool (.cons .bool (.cons .bool .nil)))))) xs := by simp [cnt, List.map_cons, List.sum_cons]
    rw [hc] at h1
    simp only [wide] at h1
    have hw0 : IntKind.i64.wrap (m + 1) = m + 1 := by rw [wrap_i] <;> omega
    have hw1 : IntKind.i64.wrap (m + 1 + 1) = m + 1 + 1 := by rw [wrap_i] <;> omega
    have hw2 : IntKind.i64.wrap (m + 1 + 1 + 1) = m + 1 + 1 + 1 := by rw [wrap_i] <;> omega
    have hw3 : IntKind.i64.wrap (m + 1 + 1 + 1 + 1) = m + 1 + 1 + 1 + 1 := by rw [wrap_i] <;> omega
    have ih := ih (done ++ [(m, (decide (Int.tmod (m + 1) 3 = 0)), (decide (Int.tmod (m + 1 + 1) 3 = 0)), (decide (Int.tmod (m + 1 + 1 + 1) 3 = 0)), ())]) (m + 1 + 1 + 1 + 1) (by omega) (by simp only [wide]; omega) (by simp only [List.length_append, List.length_cons, List.length_nil, wide]; omega)
    have e1 : (done ++ [(m, (decide (Int.tmod (m + 1) 3 = 0)), (decide (Int.tmod (m + 1 + 1) 3 = 0)), (decide (Int.tmod (m + 1 + 1 + 1) 3 = 0)), ())]).length = done.length + 1 := by simp
    have e2 : done.length + 1 + xs.length = done.length + (x :: xs).length := by simp; omega
    rw [app_one, app_one, e1, e2] at ih
    rw [loop_eq pr 128 0 _ Tryz.f128 fn_128 _ rfl _ ann_128 _ rfl]
    obtain ⟨a0, a1, a2, a3, ⟨⟩⟩ := x
    simp -implicitDefEqProofs only [getD_app, set_app, lt_app, ltn_app, zero_le_cast, Int.toNat_natCast, hn, hw0, hw1, hw2, hw3, go_sem, Nat.reduceAdd, Nat.reduceSub, Nat.reduceMul, Nat.reduceMod, Nat.reduceLT, Nat.reduceLeDiff, Nat.reduceEqDiff, Nat.reduceBEq, Nat.reduceDiv, Int.reduceLT, Int.reduceLE, Int.reduceToNat, Int.reduceNeg, Int.reduceEq, ↓reduceIte, reduceCtorEq, ↓reduceDIte]
    exact ih
theorem mark_EntryS (xs : List (Ty.Den (.agg (.cons (.int .i64) (.cons .bool (.cons .bool (.cons .bool .nil))))))) (m : Int) (h0 : 0 ≤ m) (h1 : m + cnt (.slice (.agg (.cons (.int .i64) (.cons .bool (.cons .bool (.cons .bool .nil)))))) xs ≤ wide) (hb : xs.length ≤ wide) : callOf pr 128 [.os (.t 1000000), I m] [(1000000, .arr false false (.agg (.cons (.int .i64) (.cons .bool (.cons .bool (.cons .bool .nil))))) xs)] = some (I (markD (.slice (.agg (.cons (.int .i64) (.cons .bool (.cons .bool (.cons .bool .nil)))))) m xs).2, [(1000000, .arr false false (.agg (.cons (.int .i64) (.cons .bool (.cons .bool (.cons .bool .nil))))) (markD (.slice (.agg (.cons (.int .i64) (.cons .bool (.cons .bool (.cons .bool .nil)))))) m xs).1)]) := by
  have h := markl_EntryS xs [] m h0 h1 (by rw [List.length_nil, Nat.zero_add]; exact hb)
  simp only [List.nil_append, List.length_nil] at h
  have h : loopOf pr 128 0 ⟨[(0, .os (.t 1000000)), (1, I m), (5, I 0)], [(1000000, .arr false false (.agg (.cons (.int .i64) (.cons .bool (.cons .bool (.cons .bool .nil))))) xs)]⟩ = _ := h
  rw [call_eq pr 128 _ _ Tryz.f128 fn_128 _ rfl _ ann_128 rfl]
  simp -implicitDefEqProofs only [h, go_sem, Nat.reduceAdd, Nat.reduceSub, Nat.reduceMul, Nat.reduceMod, Nat.reduceLT, Nat.reduceLeDiff, Nat.reduceEqDiff, Nat.reduceBEq, Nat.reduceDiv, Int.reduceLT, Int.reduceLE, Int.reduceToNat, Int.reduceNeg, Int.reduceEq, ↓reduceIte, reduceCtorEq, ↓reduceDIte]
theorem markn_EntryS (m : Int) : callOf pr 128 [.nilS, I m] [] = some (I m, []) := by
  have h : loopOf pr 128 0 ⟨[(0, .nilS), (1, I m), (5, I 0)], []⟩ = some (.exit 0, ⟨[(0, .nilS), (1, I m), (5, I 0)], []⟩) := by
    rw [loop_eq pr 128 0 _ Tryz.f128 fn_128 _ rfl _ ann_128 _ rfl]
    simp -implicitDefEqProofs only [Int.lt_irrefl, go_sem, Nat.reduceAdd, Nat.reduceSub, Nat.reduceMul, Nat.reduceMod, Nat.reduceLT, Nat.reduceLeDiff, Nat.reduceEqDiff, Nat.reduceBEq, Nat.reduceDiv, Int.reduceLT, Int.reduceLE, Int.reduceToNat, Int.reduceNeg, Int.reduceEq, ↓reduceIte, reduceCtorEq, ↓reduceDIte]
  rw [call_eq pr 128 _ _ Tryz.f128 fn_128 _ rfl _ ann_128 rfl]
  simp -implicitDefEqProofs only [h, go_sem, Nat.reduceAdd, Nat.reduceSub, Nat.reduceMul, Nat.reduceMod, Nat.reduceLT, Nat.reduceLeDiff, Nat.reduceEqDiff, Nat.reduceBEq, Nat.reduceDiv, Int.reduceLT, Int.reduceLE, Int.reduceToNat, Int.reduceNeg, Int.reduceEq, ↓reduceIte, reduceCtorEq, ↓reduceDIte]

theorem markl_EntrySS (xs : List (Ty.Den (.slice (.agg (.cons (.int .i64) (.cons .bool (.cons .bool (.cons .bool .nil)))))))) : ∀ (done : List (Ty.Den (.slice (.agg (.cons (.int .i64) (.cons .bool (.cons .bool (.cons .bool .nil)))))))) (m : Int), 0 ≤ m → m + cnt (.slice (.slice (.agg (.cons (.int .i64) (.cons .bool (.cons .bool (.cons .bool .nil))))))) xs ≤ wide → done.length + xs.length ≤ wide → (∀ x ∈ xs, Bd wide (.slice (.agg (.cons (.int .i64) (.cons .bool (.cons .bool (.cons .bool .nil)))))) x) →
    loopOf pr 79 0 ⟨[(0, .os (.t 1000000)), (1, I m), (5, I done.length)], [(1000000, .arr false true (.slice (.agg (.cons (.int .i64) (.cons .bool (.cons .bool (.cons .bool .nil)))))) (done ++ xs))]⟩ = some (.exit 0, ⟨[(0, .os (.t 1000000)), (1, I (markD (.slice (.slice (.agg (.cons (.int .i64) (.cons .bool (.cons .bool (.cons .bool .nil))))))) m xs).2), (5, I ((done.length + xs.length : Nat) : Int))], [(1000000, .arr false true (.slice (.agg (.cons (.int .i64) (.cons .bool (.cons .bool (.cons .bool .nil)))))) (done ++ (markD (.slice (.slice (.agg (.cons (.int .i64) (.cons .bool (.cons .bool (.cons .bool .nil))))))) m xs).1))]⟩) := by
  induction xs with
  | nil =>
    intro done m h0 h1 hb hx
    rw [loop_eq pr 79 0 _ Tryz.f79 fn_79 _ rfl _ ann_79 _ rfl]
    simp only [markD_slice, markS_nil]
    simp -implicitDefEqProofs only [Int.lt_irrefl, List.append_nil, Nat.add_zero, go_sem, Nat.reduceAdd, Nat.reduceSub, Nat.reduceMul, Nat.reduceMod, Nat.reduceLT, Nat.reduceLeDiff, Nat.reduceEqDiff, Nat.reduceBEq, Nat.reduceDiv, Int.reduceLT, Int.reduceLE, Int.reduceToNat, Int.reduceNeg, Int.reduceEq, ↓reduceIte, reduceCtorEq, ↓reduceDIte]
  | cons x xs ih =>
    intro done m h0 h1 hb hx
    simp only [List.length_cons, wide] at hb
    have hn : IntKind.i64.wrap ((done.length : Int) + 1) = ((done.length + 1 : Nat) : Int) := by rw [wrap_i] <;> omega
    have hc : cnt (.slice (.slice (.agg (.cons (.int .i64) (.cons .bool (.cons .bool (.cons .bool .nil))))))) (x :: xs) = cnt (.slice (.agg (.cons (.int .i64) (.cons .bool (.cons .bool (.cons .bool .nil)))))) x + cnt (.slice (.slice (.agg (.cons (.int .i64) (.cons .bool (.cons .bool (.cons .bool .nil))))))) xs := by simp [cnt, List.map_cons, List.sum_cons]
    rw [hc] at h1
    simp only [wide] at h1
    have hend := markD_end (.slice (.agg (.cons (.int .i64) (.cons .bool (.cons .bool (.cons .bool .nil)))))) m x
    have hm := mark_EntryS x m h0 (by simp only [wide]; omega) (by have := (hx x (by simp)).1; exact this)
    have ih := ih (done ++ [(markD (.slice (.agg (.cons (.int .i64) (.cons .bool (.cons .bool (.cons .bool .nil)))))) m x).1]) (markD (.slice (.agg (.cons (.int .i64) (.cons .bool (.cons .bool (.cons .bool .nil)))))) m x).2 (by omega) (by rw [hend]; simp only [wide]; omega) (by simp only [List.length_append, List.length_cons, List.length_nil, wide]; omega) (fun y hy => hx y (by simp [hy]))
    have e1 : (done ++ [(markD (.slice (.agg (.cons (.int .i64) (.cons .bool (.cons .bool (.cons .bool .nil)))))) m x).1]).length = done.length + 1 := by simp
    have e2 : done.length + 1 + xs.length = done.length + (x :: xs).length := by simp; omega
    rw [app_one, app_one, e1, e2] at ih
    rw [loop_eq pr 79 0 _ Tryz.f79 fn_79 _ rfl _ ann_79 _ rfl]
    simp -implicitDefEqProofs only [getD_app, set_app, lt_app, ltn_app, zero_le_cast, Int.toNat_natCast, hn, hm, go_sem, Nat.reduceAdd, Nat.reduceSub, Nat.reduceMul, Nat.reduceMod, Nat.reduceLT, Nat.reduceLeDiff, Nat.reduceEqDiff, Nat.reduceBEq, Nat.reduceDiv, Int.reduceLT, Int.reduceLE, Int.reduceToNat, Int.reduceNeg, Int.reduceEq, ↓reduceIte, reduceCtorEq, ↓reduceDIte]
    exact ih
theorem mark_EntrySS (xs : List (Ty.Den (.slice (.agg (.cons (.int .i64) (.cons .bool (.cons .bool (.cons .bool .nil)))))))) (m : Int) (h0 : 0 ≤ m) (h1 : m + cnt (.slice (.slice (.agg (.cons (.int .i64) (.cons .bool (.cons .bool (.cons .bool .nil))))))) xs ≤ wide) (hb : xs.length ≤ wide) (hx : ∀ x ∈ xs, Bd wide (.slice (.agg (.cons (.int .i64) (.cons .bool (.cons .bool (.cons .bool .nil)))))) x) : callOf pr 79 [.os (.t 1000000), I m] [(1000000, .arr false true (.slice (.agg (.cons (.int .i64) (.cons .bool (.cons .bool (.cons .bool .nil)))))) xs)] = some (I (markD (.slice (.slice (.agg (.cons (.int .i64) (.cons .bool (.cons .bool (.cons .bool .nil))))))) m xs).2, [(1000000, .arr false true (.slice (.agg (.cons (.int .i64) (.cons .bool (.cons .bool (.cons .bool .nil)))))) (markD (.slice (.slice (.agg (.cons (.int .i64) (.cons .bool (.cons .bool (.cons .bool .nil))))))) m xs).1)]) := by
  have h := markl_EntrySS xs [] m h0 h1 (by rw [List.length_nil, Nat.zero_add]; exact hb) hx
  simp only [List.nil_append, List.length_nil] at h
  have h : loopOf pr 79 0 ⟨[(0, .os (.t 1000000)), (1, I m), (5, I 0)], [(1000000, .arr false true (.slice (.agg (.cons (.int .i64) (.cons .bool (.cons .bool (.cons .bool .nil)))))) xs)]⟩ = _ := h
  rw [call_eq pr 79 _ _ Tryz.f79 fn_79 _ rfl _ ann_79 rfl]
  simp -implicitDefEqProofs only [h, go_sem, Nat.reduceAdd, Nat.reduceSub, Nat.reduceMul, Nat.reduceMod, Nat.reduceLT, Nat.reduceLeDiff, Nat.reduceEqDiff, Nat.reduceBEq, Nat.reduceDiv, Int.reduceLT, Int.reduceLE, Int.reduceToNat, Int.reduceNeg, Int.reduceEq, ↓reduceIte, reduceCtorEq, ↓reduceDIte]
theorem markn_EntrySS (m : Int) : callOf pr 79 [.nilS, I m] [] = some (I m, []) := by
  have h : loopOf pr 79 0 ⟨[(0, .nilS), (1, I m), (5, I 0)], []⟩ = some (.exit 0, ⟨[(0, .nilS), (1, I m), (5, I 0)], []⟩) := by
    rw [loop_eq pr 79 0 _ Tryz.f79 fn_79 _ rfl _ ann_79 _ rfl]
    simp -implicitDefEqProofs only [Int.lt_irrefl, go_sem, Nat.reduceAdd, Nat.reduceSub, Nat.reduceMul, Nat.reduceMod, Nat.reduceLT, Nat.reduceLeDiff, Nat.reduceEqDiff, Nat.reduceBEq, Nat.reduceDiv, Int.reduceLT, Int.reduceLE, Int.reduceToNat, Int.reduceNeg, Int.reduceEq, ↓reduceIte, reduceCtorEq, ↓reduceDIte]
  rw [call_eq pr 79 _ _ Tryz.f79 fn_79 _ rfl _ ann_79 rfl]
  simp -implicitDefEqProofs only [h, go_sem, Nat.reduceAdd, Nat.reduceSub, Nat.reduceMul, Nat.reduceMod, Nat.reduceLT, Nat.reduceLeDiff, Nat.reduceEqDiff, Nat.reduceBEq, Nat.reduceDiv, Int.reduceLT, Int.reduceLE, Int.reduceToNat, Int.reduceNeg, Int.reduceEq, ↓reduceIte, reduceCtorEq, ↓reduceDIte]

theorem markl_CachedS (xs : List (Ty.Den (.agg (.cons (.int .i64) (.cons (.int .i64) (.cons .bool .nil)))))) : ∀ (done : List (Ty.Den (.agg (.cons (.int .i64) (.cons (.int .i64) (.cons .bool .nil)))))) (m : Int), 0 ≤ m → m + cnt (.slice (.agg (.cons (.int .i64) (.cons (.int .i64) (.cons .bool .nil))))) xs ≤ wide → done.length + xs.length ≤ wide →
    loopOf pr 80 0 ⟨[(0, .os (.t 1000000)), (1, I m), (5, I done.length)], [(1000000, .arr false false (.agg (.cons (.int .i64) (.cons (.int .i64) (.cons .bool .nil)))) (done ++ xs))]⟩ = some (.exit 0, ⟨[(0, .os (.t 1000000)), (1, I (markD (.slice (.agg (.cons (.int .i64) (.cons (.int .i64) (.cons .bool .nil))))) m xs).2), (5, I ((done.length + xs.length : Nat) : Int))], [(1000000, .arr false false (.agg (.cons (.int .i64) (.cons (.int .i64) (.cons .bool .nil)))) (done ++ (markD (.slice (.agg (.cons (.int .i64) (.cons (.int .i64) (.cons .bool .nil))))) m xs).1))]⟩) := by
  induction xs with
  | nil =>
    intro done m h0 h1 hb
    rw [loop_eq pr 80 0 _ Tryz.f80 fn_80 _ rfl _ ann_80 _ rfl]
    simp only [markD_slice, markS_nil]
    simp -implicitDefEqProofs only [Int.lt_irrefl, List.append_nil, Nat.add_zero, go_sem, Nat.reduceAdd, Nat.reduceSub, Nat.reduceMul, Nat.reduceMod, Nat.reduceLT, Nat.reduceLeDiff, Nat.reduceEqDiff, Nat.reduceBEq, Nat.reduceDiv, Int.reduceLT, Int.reduceLE, Int.reduceToNat, Int.reduceNeg, Int.reduceEq, ↓reduceIte, reduceCtorEq, ↓reduceDIte]
  | cons x xs ih =>
    intro done m h0 h1 hb
    simp only [List.length_cons, wide] at hb
    have hn : IntKind.i64.wrap ((done.length : Int) + 1) = ((done.length + 1 : Nat) : Int) := by rw [wrap_i] <;> omega
    have hc : cnt (.slice (.agg (.cons (.int .i64) (.cons (.int .i64) (.cons .bool .nil))))) (x :: xs) = 3 + cnt (.slice (.agg (.cons (.int .i64) (.cons (.int .i64) (.cons .bool .nil))))) xs := by simp [cnt, List.map_cons, List.sum_cons]
    rw [hc] at h1
    simp only [wide] at h1
    have hw0 : IntKind.i64.wrap (m + 1) = m + 1 := by rw [wrap_i] <;> omega
    have hw1 : IntKind.i64.wrap (m + 1 + 1) = m + 1 + 1 := by rw [wrap_i] <;> omega
    have hw2 : IntKind.i64.wrap (m + 1 + 1 + 1) = m + 1 + 1 + 1 := by rw [wrap_i] <;> omega
    have ih := ih (done ++ [(m, (m + 1), (decide (Int.tmod (m + 1 + 1) 3 = 0)), ())]) (m + 1 + 1 + 1) (by omega) (by simp only [wide]; omega) (by simp only [List.length_append, List.length_cons, List.length_nil, wide]; omega)
    have e1 : (done ++ [(m, (m + 1), (decide (Int.tmod (m + 1 + 1) 3 = 0)), ())]).length = done.length + 1 := by simp
    have e2 : done.length + 1 + xs.length = done.length + (x :: xs).length := by simp; omega
    rw [app_one, app_one, e1, e2] at ih
    rw [loop_eq pr 80 0 _ Tryz.f80 fn_80 _ rfl _ ann_80 _ rfl]
    obtain ⟨a0, a1, a2, ⟨⟩⟩ := x
    simp -implicitDefEqProofs only [getD_app, set_app, lt_app, ltn_app, zero_le_cast, Int.toNat_natCast, hn, hw0, hw1, hw2, go_sem, Nat.reduceAdd, Nat.reduceSub, Nat.reduceMul, Nat.reduceMod, Nat.reduceLT, Nat.reduceLeDiff, Nat.reduceEqDiff, Nat.reduceBEq, Nat.reduceDiv, Int.reduceLT, Int.reduceLE, Int.reduceToNat, Int.reduceNeg, Int.reduceEq, ↓reduceIte, reduceCtorEq, ↓reduceDIte]
    exact ih
theorem mark_CachedS (xs : List (Ty.Den (.agg (.cons (.int .i64) (.cons (.int .i64) (.cons .bool .nil)))))) (m : Int) (h0 : 0 ≤ m) (h1 : m + cnt (.slice (.agg (.cons (.int .i64) (.cons (.int .i64) (.cons .bool .nil))))) xs ≤ wide) (hb : xs.length ≤ wide) : callOf pr 80 [.os (.t 1000000), I m] [(1000000, .arr false false (.agg (.cons (.int .i64) (.cons (.int .i64) (.cons .bool .nil)))) xs)] = some (I (markD (.slice (.agg (.cons (.int .i64) (.cons (.int .i64) (.cons .bool .nil))))) m xs).2, [(1000000, .arr false false (.agg (.cons (.int .i64) (.cons (.int .i64) (.cons .bool .nil)))) (markD (.slice (.agg (.cons (.int .i64) (.cons (.int .i64) (.cons .bool .nil))))) m xs).1)]) := by
  have h := markl_CachedS xs [] m h0 h1 (by rw [List.length_nil, Nat.zero_add]; exact hb)
  simp only [List.nil_append, List.length_nil] at h
  have h : loopOf pr 80 0 ⟨[(0, .os (.t 1000000)), (1, I m), (5, I 0)], [(1000000, .arr false false (.agg (.cons (.int .i64) (.cons (.int .i64) (.cons .bool .nil)))) xs)]⟩ = _ := h
  rw [call_eq pr 80 _ _ Tryz.f80 fn_80 _ rfl _ ann_80 rfl]
  simp -implicitDefEqProofs only [h, go_sem, Nat.reduceAdd, Nat.reduceSub, Nat.reduceMul, Nat.reduceMod, Nat.reduceLT, Nat.reduceLeDiff, Nat.reduceEqDiff, Nat.reduceBEq, Nat.reduceDiv, Int.reduceLT, Int.reduceLE, Int.reduceToNat, Int.reduceNeg, Int.reduceEq, ↓reduceIte, reduceCtorEq, ↓reduceDIte]
theorem markn_CachedS (m : Int) : callOf pr 80 [.nilS, I m] [] = some (I m, []) := by
  have h : loopOf pr 80 0 ⟨[(0, .nilS), (1, I m), (5, I 0)], []⟩ = some (.exit 0, ⟨[(0, .nilS), (1, I m), (5, I 0)], []⟩) := by
    rw [loop_eq pr 80 0 _ Tryz.f80 fn_80 _ rfl _ ann_80 _ rfl]
    simp -implicitDefEqProofs only [Int.lt_irrefl, go_sem, Nat.reduceAdd, Nat.reduceSub, Nat.reduceMul, Nat.reduceMod, Nat.reduceLT, Nat.reduceLeDiff, Nat.reduceEqDiff, Nat.reduceBEq, Nat.reduceDiv, Int.reduceLT, Int.reduceLE, Int.reduceToNat, Int.reduceNeg, Int.reduceEq, ↓reduceIte, reduceCtorEq, ↓reduceDIte]
  rw [call_eq pr 80 _ _ Tryz.f80 fn_80 _ rfl _ ann_80 rfl]
  simp -implicitDefEqProofs only [h, go_sem, Nat.reduceAdd, Nat.reduceSub, Nat.reduceMul, Nat.reduceMod, Nat.reduceLT, Nat.reduceLeDiff, Nat.reduceEqDiff, Nat.reduceBEq, Nat.reduceDiv, Int.reduceLT, Int.reduceLE, Int.reduceToNat, Int.reduceNeg, Int.reduceEq, ↓reduceIte, reduceCtorEq, ↓reduceDIte]

theorem mark_Space (y0 : Ty.Den (.slice (.int .i64))) (y1 : Ty.Den (.slice (.slice (.agg (.cons (.int .i64) (.cons .bool (.cons .bool (.cons .bool .nil)))))))) (y2 : Ty.Den (.slice (.agg (.cons (.int .i64) (.cons (.int .i64) (.cons .bool .nil)))))) (m : Int) (h0 : 0 ≤ m) (h1 : m + ((cnt (.slice (.int .i64)) y0 + cnt (.slice (.slice (.agg (.cons (.int .i64) (.cons .bool (.cons .bool (.cons .bool .nil))))))) y1 + cnt (.slice (.agg (.cons (.int .i64) (.cons (.int .i64) (.cons .bool .nil))))) y2 : Nat) : Int) ≤ wide) (by0 : Bd wide (.slice (.int .i64)) y0) (by1 : Bd wide (.slice (.slice (.agg (.cons (.int .i64) (.cons .bool (.cons .bool (.cons .bool .nil))))))) y1) (by2 : Bd wide (.slice (.agg (.cons (.int .i64) (.cons (.int .i64) (.cons .bool .nil))))) y2) : callOf pr 23 [.agg [.os (.t 1000000), .os (.t 1000001), .os (.t 1000002)], I m] [(1000000, .arr false false (.int .i64) y0), (1000001, .arr false true (.slice (.agg (.cons (.int .i64) (.cons .bool (.cons .bool (.cons .bool .nil)))))) y1), (1000002, .arr false false (.agg (.cons (.int .i64) (.cons (.int .i64) (.cons .bool .nil)))) y2)] = some (I (markD (.slice (.agg (.cons (.int .i64) (.cons (.int .i64) (.cons .bool .nil))))) (markD (.slice (.slice (.agg (.cons (.int .i64) (.cons .bool (.cons .bool (.cons .bool .nil))))))) (markD (.slice (.int .i64)) m y0).2 y1).2 y2).2, [(1000000, .arr false false (.int .i64) (markD (.slice (.int .i64)) m y0).1), (1000001, .arr false true (.slice (.agg (.cons (.int .i64) (.cons .bool (.cons .bool (.cons .bool .nil)))))) (markD (.slice (.slice (.agg (.cons (.int .i64) (.cons .bool (.cons .bool (.cons .bool .nil))))))) (markD (.slice (.int .i64)) m y0).2 y1).1), (1000002, .arr false false (.agg (.cons (.int .i64) (.cons (.int .i64) (.cons .bool .nil)))) (markD (.slice (.agg (.cons (.int .i64) (.cons (.int .i64) (.cons .bool .nil))))) (markD (.slice (.slice (.agg (.cons (.int .i64) (.cons .bool (.cons .bool (.cons .bool .nil))))))) (markD (.slice (.int .i64)) m y0).2 y1).2 y2).1)]) := by
  simp only [wide] at h1
  have q0 := markD_end (.slice (.int .i64)) m y0
  have q1 := markD_end (.slice (.slice (.agg (.cons (.int .i64) (.cons .bool (.cons .bool (.cons .bool .nil))))))) (markD (.slice (.int .i64)) m y0).2 y1
  have q2 := markD_end (.slice (.agg (.cons (.int .i64) (.cons (.int .i64) (.cons .bool .nil))))) (markD (.slice (.slice (.agg (.cons (.int .i64) (.cons .bool (.cons .bool (.cons .bool .nil))))))) (markD (.slice (.int .i64)) m y0).2 y1).2 y2
  have f0 := mark_Int64S y0 m (by omega) (by simp only [wide]; omega) by0.1
  have f1 := mark_EntrySS y1 (markD (.slice (.int .i64)) m y0).2 (by omega) (by simp only [wide]; omega) by1.1 by1.2
  have f2 := mark_CachedS y2 (markD (.slice (.slice (.agg (.cons (.int .i64) (.cons .bool (.cons .bool (.cons .bool .nil))))))) (markD (.slice (.int .i64)) m y0).2 y1).2 (by omega) (by simp only [wide]; omega) by2.1
  rw [call_eq pr 23 _ _ Tryz.f23 fn_23 _ rfl _ ann_23 rfl]
  simp -implicitDefEqProofs only [f0, f1, f2, go_sem, Nat.reduceAdd, Nat.reduceSub, Nat.reduceMul, Nat.reduceMod, Nat.reduceLT, Nat.reduceLeDiff, Nat.reduceEqDiff, Nat.reduceBEq, Nat.reduceDiv, Int.reduceLT, Int.reduceLE, Int.reduceToNat, Int.reduceNeg, Int.reduceEq, ↓reduceIte, reduceCtorEq, ↓reduceDIte]

theorem markn_Space (m : Int) (h0 : 0 ≤ m) : callOf pr 23 [.agg [.nilS, .nilS, .nilS], I m] [] = some (I m, []) := by
  rw [call_eq pr 23 _ _ Tryz.f23 fn_23 _ rfl _ ann_23 rfl]
  simp -implicitDefEqProofs only [markn_Int64S, markn_EntrySS, markn_CachedS, fa (show ¬ m < 0 by omega), go_sem, Nat.reduceAdd, Nat.reduceSub, Nat.reduceMul, Nat.reduceMod, Nat.reduceLT, Nat.reduceLeDiff, Nat.reduceEqDiff, Nat.reduceBEq, Nat.reduceDiv, Int.reduceLT, Int.reduceLE, Int.reduceToNat, Int.reduceNeg, Int.reduceEq, ↓reduceIte, reduceCtorEq, ↓reduceDIte]

theorem heldl_Int64S (xs : List (Ty.Den (.int .i64))) : ∀ (done : List (Ty.Den (.int .i64))) (m : Int), 0 ≤ m → m + cnt (.slice (.int .i64)) xs ≤ wide → done.length + xs.length ≤ wide →
    loopOf pr 40 0 ⟨[(0, .d (.slice (.int .i64)) (done ++ (markD (.slice (.int .i64)) m xs).1)), (1, I m), (5, I done.length)], []⟩ = some (.exit 0, ⟨[(0, .d (.slice (.int .i64)) (done ++ (markD (.slice (.int .i64)) m xs).1)), (1, I (markD (.slice (.int .i64)) m xs).2), (5, I ((done.length + xs.length : Nat) : Int))], []⟩) := by
  induction xs with
  | nil =>
    intro done m h0 h1 hb
    rw [loop_eq pr 40 0 _ Tryz.f40 fn_40 _ rfl _ ann_40 _ rfl]
    simp only [markD_slice, markS_nil]
    simp -implicitDefEqProofs only [Int.lt_irrefl, List.append_nil, Nat.add_zero, go_sem, Nat.reduceAdd, Nat.reduceSub, Nat.reduceMul, Nat.reduceMod, Nat.reduceLT, Nat.reduceLeDiff, Nat.reduceEqDiff, Nat.reduceBEq, Nat.reduceDiv, Int.reduceLT, Int.reduceLE, Int.reduceToNat, Int.reduceNeg, Int.reduceEq, ↓reduceIte, reduceCtorEq, ↓reduceDIte]
  | cons x xs ih =>
    intro done m h0 h1 hb
    simp only [List.length_cons, wide] at hb
    have hn : IntKind.i64.wrap ((done.length : Int) + 1) = ((done.length + 1 : Nat) : Int) := by rw [wrap_i] <;> omega
    have hc : cnt (.slice (.int .i64)) (x :: xs) = 1 + cnt (.slice (.int .i64)) xs := by simp [cnt, List.map_cons, List.sum_cons]
    rw [hc] at h1
    simp only [wide] at h1
    have hw0 : IntKind.i64.wrap (m + 1) = m + 1 := by rw [wrap_i] <;> omega
    have ih := ih (done ++ [m]) (m + 1) (by omega) (by simp only [wide]; omega) (by simp only [List.length_append, List.length_cons, List.length_nil, wide]; omega)
    have e1 : (done ++ [m]).length = done.length + 1 := by simp
    have e2 : done.length + 1 + xs.length = done.length + (x :: xs).length := by simp; omega
    rw [app_one, e1, e2] at ih
    have em : (markD (.slice (.int .i64)) m (x :: xs)) = (m :: (markD (.slice (.int .i64)) (m + 1) xs).1, (markD (.slice (.int .i64)) (m + 1) xs).2) := rfl
    rw [em]
    simp only
    rw [loop_eq pr 40 0 _ Tryz.f40 fn_40 _ rfl _ ann_40 _ rfl]
    simp -implicitDefEqProofs only [getD_app, set_app, lt_app, ltn_app, zero_le_cast, Int.toNat_natCast, hn, BEq.rfl, beq_self_eq_true, decide_true, hw0, go_sem, Nat.reduceAdd, Nat.reduceSub, Nat.reduceMul, Nat.reduceMod, Nat.reduceLT, Nat.reduceLeDiff, Nat.reduceEqDiff, Nat.reduceBEq, Nat.reduceDiv, Int.reduceLT, Int.reduceLE, Int.reduceToNat, Int.reduceNeg, Int.reduceEq, ↓reduceIte, reduceCtorEq, ↓reduceDIte]
    exact ih
theorem held_Int64S (xs : List (Ty.Den (.int .i64))) (m : Int) (h0 : 0 ≤ m) (h1 : m + cnt (.slice (.int .i64)) xs ≤ wide) (hb : xs.length ≤ wide) : callOf pr 40 [.d (.slice (.int .i64)) (markD (.slice (.int .i64)) m xs).1, I m] [] = some (I (markD (.slice (.int .i64)) m xs).2, []) := by
  have h := heldl_Int64S xs [] m h0 h1 (by rw [List.length_nil, Nat.zero_add]; exact hb)
  simp only [List.nil_append, List.length_nil] at h
  have h : loopOf pr 40 0 ⟨[(0, .d (.slice (.int .i64)) (markD (.slice (.int .i64)) m xs).1), (1, I m), (5, I 0)], []⟩ = _ := h
  rw [call_eq pr 40 _ _ Tryz.f40 fn_40 _ rfl _ ann_40 rfl]
  simp -implicitDefEqProofs only [h, go_sem, Nat.reduceAdd, Nat.reduceSub, Nat.reduceMul, Nat.reduceMod, Nat.reduceLT, Nat.reduceLeDiff, Nat.reduceEqDiff, Nat.reduceBEq, Nat.reduceDiv, Int.reduceLT, Int.reduceLE, Int.reduceToNat, Int.reduceNeg, Int.reduceEq, ↓reduceIte, reduceCtorEq, ↓reduceDIte]
theorem heldn_Int64S (m : Int) : callOf pr 40 [.nilS, I m] [] = some (I m, []) := by
  have h : loopOf pr 40 0 ⟨[(0, .nilS), (1, I m), (5, I 0)], []⟩ = some (.exit 0, ⟨[(0, .nilS), (1, I m), (5, I 0)], []⟩) := by
    rw [loop_eq pr 40 0 _ Tryz.f40 fn_40 _ rfl _ ann_40 _ rfl]
    simp -implicitDefEqProofs only [Int.lt_irrefl, go_sem, Nat.reduceAdd, Nat.reduceSub, Nat.reduceMul, Nat.reduceMod, Nat.reduceLT, Nat.reduceLeDiff, Nat.reduceEqDiff, Nat.reduceBEq, Nat.reduceDiv, Int.reduceLT, Int.reduceLE, Int.reduceToNat, Int.reduceNeg, Int.reduceEq, ↓reduceIte, reduceCtorEq, ↓reduceDIte]
  rw [call_eq pr 40 _ _ Tryz.f40 fn_40 _ rfl _ ann_40 rfl]
  simp -implicitDefEqProofs only [h, go_sem, Nat.reduceAdd, Nat.reduceSub, Nat.reduceMul, Nat.reduceMod, Nat.reduceLT, Nat.reduceLeDiff, Nat.reduceEqDiff, Nat.reduceBEq, Nat.reduceDiv, Int.reduceLT, Int.reduceLE, Int.reduceToNat, Int.reduceNeg, Int.reduceEq, ↓reduceIte, reduceCtorEq, ↓reduceDIte]

theorem heldl_EntryS (xs : List (Ty.Den (.agg (.cons (.int .i64) (.cons .bool (.cons .bool (.cons .bool .nil))))))) : ∀ (done : List (Ty.Den (.agg (.cons (.int .i64) (.cons .bool (.cons .bool (.cons .bool .nil))))))) (m : Int), 0 ≤ m → m + cnt (.slice (.agg (.cons (.int .i64) (.cons .bool (.cons .bool (.cons .bool .nil)))))) xs ≤ wide → done.length + xs.length ≤ wide →
    loopOf pr 129 0 ⟨[(0, .d (.slice (.agg (.cons (.int .i64) (.cons .bool (.cons .bool (.cons .bool .nil)))))) (done ++ (markD (.slice (.agg (.cons (.int .i64) (.cons .bool (.cons .bool (.cons .bool .nil)))))) m xs).1)), (1, I m), (5, I done.length)], []⟩ = some (.exit 0, ⟨[(0, .d (.slice (.agg (.cons (.int .i64) (.cons .bool (.cons .bool (.cons .bool .nil)))))) (done ++ (markD (.slice (.agg (.cons (.int .i64) (.cons .bool (.cons .bool (.cons .bool .nil)))))) m xs).1)), (1, I (markD (.slice (.agg (.cons (.int .i64) (.cons .bool (.cons .bool (.cons .bool .nil)))))) m xs).2), (5, I ((done.length + xs.length : Nat) : Int))], []⟩) := by
  induction xs with
  | nil =>
    intro done m h0 h1 hb
    rw [loop_eq pr 129 0 _ Tryz.f129 fn_129 _ rfl _ ann_129 _ rfl]
    simp only [markD_slice, markS_nil]
    simp -implicitDefEqProofs only [Int.lt_irrefl, List.append_nil, Nat.add_zero, go_sem, Nat.reduceAdd, Nat.reduceSub, Nat.reduceMul, Nat.reduceMod, Nat.reduceLT, Nat.reduceLeDiff, Nat.reduceEqDiff, Nat.reduceBEq, Nat.reduceDiv, Int.reduceLT, Int.reduceLE, Int.reduceToNat, Int.reduceNeg, Int.reduceEq, ↓reduceIte, reduceCtorEq, ↓reduceDIte]
  | cons x xs ih =>
    intro done m h0 h1 hb
    simp only [List.length_cons, wide] at hb
    have hn : IntKind.i64.wrap ((done.length : Int) + 1) = ((done.length + 1 : Nat) : Int) := by rw [wrap_i] <;> omega
    have hc : cnt (.slice (.agg (.cons (.int .i64) (.cons .bool (.cons .bool (.cons .bool .nil)))))) (x :: xs) = 4 + cnt (.slice (.agg (.cons (.int .i64) (.cons .bool (.cons .bool (.cons .bool .nil)))))) xs := by simp [cnt, List.map_cons, List.sum_cons]
    rw [hc] at h1
    simp only [wide] at h1
    have hw0 : IntKind.i64.wrap (m + 1) = m + 1 := by rw [wrap_i] <;> omega
    have hw1 : IntKind.i64.wrap (m + 1 + 1) = m + 1 + 1 := by rw [wrap_i] <;> omega
    have hw2 : IntKind.i64.wrap (m + 1 + 1 + 1) = m + 1 + 1 + 1 := by rw [wrap_i] <;> omega
    have hw3 : IntKind.i64.wrap (m + 1 + 1 + 1 + 1) = m + 1 + 1 + 1 + 1 := by rw [wrap_i] <;> omega
    have ih := ih (done ++ [(m, (decide (Int.tmod (m + 1) 3 = 0)), (decide (Int.tmod (m + 1 + 1) 3 = 0)), (decide (Int.tmod (m + 1 + 1 + 1) 3 = 0)), ())]) (m + 1 + 1 + 1 + 1) (by omega) (by simp only [wide]; omega) (by simp only [List.length_append, List.length_cons, List.length_nil, wide]; omega)
    have e1 : (done ++ [(m, (decide (Int.tmod (m + 1) 3 = 0)), (decide (Int.tmod (m + 1 + 1) 3 = 0)), (decide (Int.tmod (m + 1 + 1 + 1) 3 = 0)), ())]).length = done.length + 1 := by simp
    have e2 : done.length + 1 + xs.length = done.length + (x :: xs).length := by simp; omega
    rw [app_one, e1, e2] at ih
    have em : (markD (.slice (.agg (.cons (.int .i64) (.cons .bool (.cons .bool (.cons .bool .nil)))))) m (x :: xs)) = ((m, (decide (Int.tmod (m + 1) 3 = 0)), (decide (Int.tmod (m + 1 + 1) 3 = 0)), (decide (Int.tmod (m + 1 + 1 + 1) 3 = 0)), ()) :: (markD (.slice (.agg (.cons (.int .i64) (.cons .bool (.cons .bool (.cons .bool .nil)))))) (m + 1 + 1 + 1 + 1) xs).1, (markD (.slice (.agg (.cons (.int .i64) (.cons .bool (.cons .bool (.cons .bool .nil)))))) (m + 1 + 1 + 1 + 1) xs).2) := rfl
    rw [em]
    simp only
    rw [loop_eq pr 129 0 _ Tryz.f129 fn_129 _ rfl _ ann_129 _ rfl]
    simp -implicitDefEqProofs only [getD_app, set_app, lt_app, ltn_app, zero_le_cast, Int.toNat_natCast, hn, BEq.rfl, beq_self_eq_true, decide_true, hw0, hw1, hw2, hw3, go_sem, Nat.reduceAdd, Nat.reduceSub, Nat.reduceMul, Nat.reduceMod, Nat.reduceLT, Nat.reduceLeDiff, Nat.reduceEqDiff, Nat.reduceBEq, Nat.reduceDiv, Int.reduceLT, Int.reduceLE, Int.reduceToNat, Int.reduceNeg, Int.reduceEq, ↓reduceIte, reduceCtorEq, ↓reduceDIte]
    exact ih
theorem held_EntryS (xs : List (Ty.Den (.agg (.cons (.int .i64) (.cons .bool (.cons .bool (.cons .bool .nil))))))) (m : Int) (h0 : 0 ≤ m) (h1 : m + cnt (.slice (.agg (.cons (.int .i64) (.cons .bool (.cons .bool (.cons .bool .nil)))))) xs ≤ wide) (hb : xs.length ≤ wide) : callOf pr 129 [.d (.slice (.agg (.cons (.int .i64) (.cons .bool (.cons .bool (.cons .bool .nil)))))) (markD (.slice (.agg (.cons (.int .i64) (.cons .bool (.cons .bool (.cons .bool .nil)))))) m xs).1, I m] [] = some (I (markD (.slice (.agg (.cons (.int .i64) (.cons .bool (.cons .bool (.cons .bool .nil)))))) m xs).2, []) := by
  have h := heldl_EntryS xs [] m h0 h1 (by rw [List.length_nil, Nat.zero_add]; exact hb)
  simp only [List.nil_append, List.length_nil] at h
  have h : loopOf pr 129 0 ⟨[(0, .d (.slice (.agg (.cons (.int .i64) (.cons .bool (.cons .bool (.cons .bool .nil)))))) (markD (.slice (.agg (.cons (.int .i64) (.cons .bool (.cons .bool (.cons .bool .nil)))))) m xs).1), (1, I m), (5, I 0)], []⟩ = _ := h
  rw [call_eq pr 129 _ _ Tryz.f129 fn_129 _ rfl _ ann_129 rfl]
  simp -implicitDefEqProofs only [h, go_sem, Nat.reduceAdd, Nat.reduceSub, Nat.reduceMul, Nat.reduceMod, Nat.reduceLT, Nat.reduceLeDiff, Nat.reduceEqDiff, Nat.reduceBEq, Nat.reduceDiv, Int.reduceLT, Int.reduceLE, Int.reduceToNat, Int.reduceNeg, Int.reduceEq, ↓reduceIte, reduceCtorEq, ↓reduceDIte]
theorem heldn_EntryS (m : Int) : callOf pr 129 [.nilS, I m] [] = some (I m, []) := by
  have h : loopOf pr 129 0 ⟨[(0, .nilS), (1, I m), (5, I 0)], []⟩ = some (.exit 0, ⟨[(0, .nilS), (1, I m), (5, I 0)], []⟩) := by
    rw [loop_eq pr 129 0 _ Tryz.f129 fn_129 _ rfl _ ann_129 _ rfl]
    simp -implicitDefEqProofs only [Int.lt_irrefl, go_sem, Nat.reduceAdd, Nat.reduceSub, Nat.reduceMul, Nat.reduceMod, Nat.reduceLT, Nat.reduceLeDiff, Nat.reduceEqDiff, Nat.reduceBEq, Nat.reduceDiv, Int.reduceLT, Int.reduceLE, Int.reduceToNat, Int.reduceNeg, Int.reduceEq, ↓reduceIte, reduceCtorEq, ↓reduceDIte]
  rw [call_eq pr 129 _ _ Tryz.f129 fn_129 _ rfl _ ann_129 rfl]
  simp -implicitDefEqProofs only [h, go_sem, Nat.reduceAdd, Nat.reduceSub, Nat.reduceMul, Nat.reduceMod, Nat.reduceLT, Nat.reduceLeDiff, Nat.reduceEqDiff, Nat.reduceBEq, Nat.reduceDiv, Int.reduceLT, Int.reduceLE, Int.reduceToNat, Int.reduceNeg, Int.reduceEq, ↓reduceIte, reduceCtorEq, ↓reduceDIte]

theorem heldl_EntrySS (xs : List (Ty.Den (.slice (.agg (.cons (.int .i64) (.cons .bool (.cons .bool (.cons .bool .nil)))))))) : ∀ (done : List (Ty.Den (.slice (.agg (.cons (.int .i64) (.cons .bool (.cons .bool (.cons .bool .nil)))))))) (m : Int), 0 ≤ m → m + cnt (.slice (.slice (.agg (.cons (.int .i64) (.cons .bool (.cons .bool (.cons .bool .nil))))))) xs ≤ wide → done.length + xs.length ≤ wide → (∀ x ∈ xs, Bd wide (.slice (.agg (.cons (.int .i64) (.cons .bool (.cons .bool (.cons .bool .nil)))))) x) →
    loopOf pr 81 0 ⟨[(0, .d (.slice (.slice (.agg (.cons (.int .i64) (.cons .bool (.cons .bool (.cons .bool .nil))))))) (done ++ (markD (.slice (.slice (.agg (.cons (.int .i64) (.cons .bool (.cons .bool (.cons .bool .nil))))))) m xs).1)), (1, I m), (5, I done.length)], []⟩ = some (.exit 0, ⟨[(0, .d (.slice (.slice (.agg (.cons (.int .i64) (.cons .bool (.cons .bool (.cons .bool .nil))))))) (done ++ (markD (.slice (.slice (.agg (.cons (.int .i64) (.cons .bool (.cons .bool (.cons .bool .nil))))))) m xs).1)), (1, I (markD (.slice (.slice (.agg (.cons (.int .i64) (.cons .bool (.cons .bool (.cons .bool .nil))))))) m xs).2), (5, I ((done.length + xs.length : Nat) : Int))], []⟩) := by
  induction xs with
  | nil =>
    intro done m h0 h1 hb hx
    rw [loop_eq pr 81 0 _ Tryz.f81 fn_81 _ rfl _ ann_81 _ rfl]
    simp only [markD_slice, markS_nil]
    simp -implicitDefEqProofs only [Int.lt_irrefl, List.append_nil, Nat.add_zero, go_sem, Nat.reduceAdd, Nat.reduceSub, Nat.reduceMul, Nat.reduceMod, Nat.reduceLT, Nat.reduceLeDiff, Nat.reduceEqDiff, Nat.reduceBEq, Nat.reduceDiv, Int.reduceLT, Int.reduceLE, Int.reduceToNat, Int.reduceNeg, Int.reduceEq, ↓reduceIte, reduceCtorEq, ↓reduceDIte]
  | cons x xs ih =>
    intro done m h0 h1 hb hx
    simp only [List.length_cons, wide] at hb
    have hn : IntKind.i64.wrap ((done.length : Int) + 1) = ((done.length + 1 : Nat) : Int) := by rw [wrap_i] <;> omega
    have hc : cnt (.slice (.slice (.agg (.cons (.int .i64) (.cons .bool (.cons .bool (.cons .bool .nil))))))) (x :: xs) = cnt (.slice (.agg (.cons (.int .i64) (.cons .bool (.cons .bool (.cons .bool .nil)))))) x + cnt (.slice (.slice (.agg (.cons (.int .i64) (.cons .bool (.cons .bool (.cons .bool .nil))))))) xs := by simp [cnt, List.map_cons, List.sum_cons]
    rw [hc] at h1
    simp only [wide] at h1
    have hend := markD_end (.slice (.agg (.cons (.int .i64) (.cons .bool (.cons .bool (.cons .bool .nil)))))) m x
    have hm := held_EntryS x m h0 (by simp only [wide]; omega) (by have := (hx x (by simp)).1; exact this)
    have hneg : ¬ (markD (.slice (.agg (.cons (.int .i64) (.cons .bool (.cons .bool (.cons .bool .nil)))))) m x).2 < 0 := by rw [hend]; omega
    have ih := ih (done ++ [(markD (.slice (.agg (.cons (.int .i64) (.cons .bool (.cons .bool (.cons .bool .nil)))))) m x).1]) (markD (.slice (.agg (.cons (.int .i64) (.cons .bool (.cons .bool (.cons .bool .nil)))))) m x).2 (by omega) (by rw [hend]; simp only [wide]; omega) (by simp only [List.length_append, List.length_cons, List.length_nil, wide]; omega) (fun y hy => hx y (by simp [hy]))
    have e1 : (done ++ [(markD (.slice (.agg (.cons (.int .i64) (.cons .bool (.cons .bool (.cons .bool .nil)))))) m x).1]).length = done.length + 1 := by simp
    have e2 : done.length + 1 + xs.length = done.length + (x :: xs).length := by simp; omega
    rw [app_one, e1, e2] at ih
    have em : (markD (.slice (.slice (.agg (.cons (.int .i64) (.cons .bool (.cons .bool (.cons .bool .nil))))))) m (x :: xs)) = ((markD (.slice (.agg (.cons (.int .i64) (.cons .bool (.cons .bool (.cons .bool .nil)))))) m x).1 :: (markD (.slice (.slice (.agg (.cons (.int .i64) (.cons .bool (.cons .bool (.cons .bool .nil))))))) (markD (.slice (.agg (.cons (.int .i64) (.cons .bool (.cons .bool (.cons .bool .nil)))))) m x).2 xs).1, (markD (.slice (.slice (.agg (.cons (.int .i64) (.cons .bool (.cons .bool (.cons .bool .nil))))))) (markD (.slice (.agg (.cons (.int .i64) (.cons .bool (.cons .bool (.cons .bool .nil)))))) m x).2 xs).2) := rfl
    rw [em]
    simp only
    rw [loop_eq pr 81 0 _ Tryz.f81 fn_81 _ rfl _ ann_81 _ rfl]
    simp -implicitDefEqProofs only [getD_app, set_app, lt_app, ltn_app, zero_le_cast, Int.toNat_natCast, hn, BEq.rfl, beq_self_eq_true, decide_true, hm, fa hneg, go_sem, Nat.reduceAdd, Nat.reduceSub, Nat.reduceMul, Nat.reduceMod, Nat.reduceLT, Nat.reduceLeDiff, Nat.reduceEqDiff, Nat.reduceBEq, Nat.reduceDiv, Int.reduceLT, Int.reduceLE, Int.reduceToNat, Int.reduceNeg, Int.reduceEq, ↓reduceIte, reduceCtorEq, ↓reduceDIte]
    exact ih
theorem held_EntrySS (xs : List (Ty.Den (.slice (.agg (.cons (.int .i64) (.cons .bool (.cons .bool (.cons .bool .nil)))))))) (m : Int) (h0 : 0 ≤ m) (h1 : m + cnt (.slice (.slice (.agg (.cons (.int .i64) (.cons .bool (.cons .bool (.cons .bool .nil))))))) xs ≤ wide) (hb : xs.length ≤ wide) (hx : ∀ x ∈ xs, Bd wide (.slice (.agg (.cons (.int .i64) (.cons .bool (.cons .bool (.cons .bool .nil)))))) x) : callOf pr 81 [.d (.slice (.slice (.agg (.cons (.int .i64) (.cons .bool (.cons .bool (.cons .bool .nil))))))) (markD (.slice (.slice (.agg (.cons (.int .i64) (.cons .bool (.cons .bool (.cons .bool .nil))))))) m xs).1, I m] [] = some (I (markD (.slice (.slice (.agg (.cons (.int .i64) (.cons .bool (.cons .bool (.cons .bool .nil))))))) m xs).2, []) := by
  have h := heldl_EntrySS xs [] m h0 h1 (by rw [List.length_nil, Nat.zero_add]; exact hb) hx
  simp only [List.nil_append, List.length_nil] at h
  have h : loopOf pr 81 0 ⟨[(0, .d (.slice (.slice (.agg (.cons (.int .i64) (.cons .bool (.cons .bool (.cons .bool .nil))))))) (markD (.slice (.slice (.agg (.cons (.int .i64) (.cons .bool (.cons .bool (.cons .bool .nil))))))) m xs).1), (1, I m), (5, I 0)], []⟩ = _ := h
  rw [call_eq pr 81 _ _ Tryz.f81 fn_81 _ rfl _ ann_81 rfl]
  simp -implicitDefEqProofs only [h, go_sem, Nat.reduceAdd, Nat.reduceSub, Nat.reduceMul, Nat.reduceMod, Nat.reduceLT, Nat.reduceLeDiff, Nat.reduceEqDiff, Nat.reduceBEq, Nat.reduceDiv, Int.reduceLT, Int.reduceLE, Int.reduceToNat, Int.reduceNeg, Int.reduceEq, ↓reduceIte, reduceCtorEq, ↓reduceDIte]
theorem heldn_EntrySS (m : Int) : callOf pr 81 [.nilS, I m] [] = some (I m, []) := by
  have h : loopOf pr 81 0 ⟨[(0, .nilS), (1, I m), (5, I 0)], []⟩ = some (.exit 0, ⟨[(0, .nilS), (1, I m), (5, I 0)], []⟩) := by
    rw [loop_eq pr 81 0 _ Tryz.f81 fn_81 _ rfl _ ann_81 _ rfl]
    simp -implicitDefEqProofs only [Int.lt_irrefl, go_sem, Nat.reduceAdd, Nat.reduceSub, Nat.reduceMul, Nat.reduceMod, Nat.reduceLT, Nat.reduceLeDiff, Nat.reduceEqDiff, Nat.reduceBEq, Nat.reduceDiv, Int.reduceLT, Int.reduceLE, Int.reduceToNat, Int.reduceNeg, Int.reduceEq, ↓reduceIte, reduceCtorEq, ↓reduceDIte]
  rw [call_eq pr 81 _ _ Tryz.f81 fn_81 _ rfl _ ann_81 rfl]
  simp -implicitDefEqProofs only [h, go_sem, Nat.reduceAdd, Nat.reduceSub, Nat.reduceMul, Nat.reduceMod, Nat.reduceLT, Nat.reduceLeDiff, Nat.reduceEqDiff, Nat.reduceBEq, Nat.reduceDiv, Int.reduceLT, Int.reduceLE, Int.reduceToNat, Int.reduceNeg, Int.reduceEq, ↓reduceIte, reduceCtorEq, ↓reduceDIte]

theorem heldl_CachedS (xs : List (Ty.Den (.agg (.cons (.int .i64) (.cons (.int .i64) (.cons .bool .nil)))))) : ∀ (done : List (Ty.Den (.agg (.cons (.int .i64) (.cons (.int .i64) (.cons .bool .nil)))))) (m : Int), 0 ≤ m → m + cnt (.slice (.agg (.cons (.int .i64) (.cons (.int .i64) (.cons .bool .nil))))) xs ≤ wide → done.length + xs.length ≤ wide →
    loopOf pr 82 0 ⟨[(0, .d (.slice (.agg (.cons (.int .i64) (.cons (.int .i64) (.cons .bool .nil))))) (done ++ (markD (.slice (.agg (.cons (.int .i64) (.cons (.int .i64) (.cons .bool .nil))))) m xs).1)), (1, I m), (5, I done.length)], []⟩ = some (.exit 0, ⟨[(0, .d (.slice (.agg (.cons (.int .i64) (.cons (.int .i64) (.cons .bool .nil))))) (done ++ (markD (.slice (.agg (.cons (.int .i64) (.cons (.int .i64) (.cons .bool .nil))))) m xs).1)), (1, I (markD (.slice (.agg (.cons (.int .i64) (.cons (.int .i64) (.cons .bool .nil))))) m xs).2), (5, I ((done.length + xs.length : Nat) : Int))], []⟩) := by
  induction xs with
  | nil =>
    intro done m h0 h1 hb
    rw [loop_eq pr 82 0 _ Tryz.f82 fn_82 _ rfl _ ann_82 _ rfl]
    simp only [markD_slice, markS_nil]
    simp -implicitDefEqProofs only [Int.lt_irrefl, List.append_nil, Nat.add_zero, go_sem, Nat.reduceAdd, Nat.reduceSub, Nat.reduceMul, Nat.reduceMod, Nat.reduceLT, Nat.reduceLeDiff, Nat.reduceEqDiff, Nat.reduceBEq, Nat.reduceDiv, Int.reduceLT, Int.reduceLE, Int.reduceToNat, Int.reduceNeg, Int.reduceEq, ↓reduceIte, reduceCtorEq, ↓reduceDIte]
  | cons x xs ih =>
    intro done m h0 h1 hb
    simp only [List.length_cons, wide] at hb
    have hn : IntKind.i64.wrap ((done.length : Int) + 1) = ((done.length + 1 : Nat) : Int) := by rw [wrap_i] <;> omega
    have hc : cnt (.slice (.agg (.cons (.int .i64) (.cons (.int .i64) (.cons .bool .nil))))) (x :: xs) = 3 + cnt (.slice (.agg (.cons (.int .i64) (.cons (.int .i64) (.cons .bool .nil))))) xs := by simp [cnt, List.map_cons, List.sum_cons]
    rw [hc] at h1
    simp only [wide] at h1
    have hw0 : IntKind.i64.wrap (m + 1) = m + 1 := by rw [wrap_i] <;> omega
    have hw1 : IntKind.i64.wrap (m + 1 + 1) = m + 1 + 1 := by rw [wrap_i] <;> omega
    have hw2 : IntKind.i64.wrap (m + 1 + 1 + 1) = m + 1 + 1 + 1 := by rw [wrap_i] <;> omega
    have ih := ih (done ++ [(m, (m + 1), (decide (Int.tmod (m + 1 + 1) 3 = 0)), ())]) (m + 1 + 1 + 1) (by omega) (by simp only [wide]; omega) (by simp only [List.length_append, List.length_cons, List.length_nil, wide]; omega)
    have e1 : (done ++ [(m, (m + 1), (decide (Int.tmod (m + 1 + 1) 3 = 0)), ())]).length = done.length + 1 := by simp
    have e2 : done.length + 1 + xs.length = done.length + (x :: xs).length := by simp; omega
    rw [app_one, e1, e2] at ih
    have em : (markD (.slice (.agg (.cons (.int .i64) (.cons (.int .i64) (.cons .bool .nil))))) m (x :: xs)) = ((m, (m + 1), (decide (Int.tmod (m + 1 + 1) 3 = 0)), ()) :: (markD (.slice (.agg (.cons (.int .i64) (.cons (.int .i64) (.cons .bool .nil))))) (m + 1 + 1 + 1) xs).1, (markD (.slice (.agg (.cons (.int .i64) (.cons (.int .i64) (.cons .bool .nil))))) (m + 1 + 1 + 1) xs).2) := rfl
    rw [em]
    simp only
    rw [loop_eq pr 82 0 _ Tryz.f82 fn_82 _ rfl _ ann_82 _ rfl]
    simp -implicitDefEqProofs only [getD_app, set_app, lt_app, ltn_app, zero_le_cast, Int.toNat_natCast, hn, BEq.rfl, beq_self_eq_true, decide_true, hw0, hw1, hw2, go_sem, Nat.reduceAdd, Nat.reduceSub, Nat.reduceMul, Nat.reduceMod, Nat.reduceLT, Nat.reduceLeDiff, Nat.reduceEqDiff, Nat.reduceBEq, Nat.reduceDiv, Int.reduceLT, Int.reduceLE, Int.reduceToNat, Int.reduceNeg, Int.reduceEq, ↓reduceIte, reduceCtorEq, ↓reduceDIte]
    exact ih
theorem held_CachedS (xs : List (Ty.Den (.agg (.cons (.int .i64) (.cons (.int .i64) (.cons .bool .nil)))))) (m : Int) (h0 : 0 ≤ m) (h1 : m + cnt (.slice (.agg (.cons (.int .i64) (.cons (.int .i64) (.cons .bool .nil))))) xs ≤ wide) (hb : xs.length ≤ wide) : callOf pr 82 [.d (.slice (.agg (.cons (.int .i64) (.cons (.int .i64) (.cons .bool .nil))))) (markD (.slice (.agg (.cons (.int .i64) (.cons (.int .i64) (.cons .bool .nil))))) m xs).1, I m] [] = some (I (markD (.slice (.agg (.cons (.int .i64) (.cons (.int .i64) (.cons .bool .nil))))) m xs).2, []) := by
  have h := heldl_CachedS xs [] m h0 h1 (by rw [List.length_nil, Nat.zero_add]; exact hb)
  simp only [List.nil_append, List.length_nil] at h
  have h : loopOf pr 82 0 ⟨[(0, .d (.slice (.agg (.cons (.int .i64) (.cons (.int .i64) (.cons .bool .nil))))) (markD (.slice (.agg (.cons (.int .i64) (.cons (.int .i64) (.cons .bool .nil))))) m xs).1), (1, I m), (5, I 0)], []⟩ = _ := h
  rw [call_eq pr 82 _ _ Tryz.f82 fn_82 _ rfl _ ann_82 rfl]
  simp -implicitDefEqProofs only [h, go_sem, Nat.reduceAdd, Nat.reduceSub, Nat.reduceMul, Nat.reduceMod, Nat.reduceLT, Nat.reduceLeDiff, Nat.reduceEqDiff, Nat.reduceBEq, Nat.reduceDiv, Int.reduceLT, Int.reduceLE, Int.reduceToNat, Int.reduceNeg, Int.reduceEq, ↓reduceIte, reduceCtorEq, ↓reduceDIte]
theorem heldn_CachedS (m : Int) : callOf pr 82 [.nilS, I m] [] = some (I m, []) := by
  have h : loopOf pr 82 0 ⟨[(0, .nilS), (1, I m), (5, I 0)], []⟩ = some (.exit 0, ⟨[(0, .nilS), (1, I m), (5, I 0)], []⟩) := by
    rw [loop_eq pr 82 0 _ Tryz.f82 fn_82 _ rfl _ ann_82 _ rfl]
    simp -implicitDefEqProofs only [Int.lt_irrefl, go_sem, Nat.reduceAdd, Nat.reduceSub, Nat.reduceMul, Nat.reduceMod, Nat.reduceLT, Nat.reduceLeDiff, Nat.reduceEqDiff, Nat.reduceBEq, Nat.reduceDiv, Int.reduceLT, Int.reduceLE, Int.reduceToNat, Int.reduceNeg, Int.reduceEq, ↓reduceIte, reduceCtorEq, ↓reduceDIte]
  rw [call_eq pr 82 _ _ Tryz.f82 fn_82 _ rfl _ ann_82 rfl]
  simp -implicitDefEqProofs only [h, go_sem, Nat.reduceAdd, Nat.reduceSub, Nat.reduceMul, Nat.reduceMod, Nat.reduceLT, Nat.reduceLeDiff, Nat.reduceEqDiff, Nat.reduceBEq, Nat.reduceDiv, Int.reduceLT, Int.reduceLE, Int.reduceToNat, Int.reduceNeg, Int.reduceEq, ↓reduceIte, reduceCtorEq, ↓reduceDIte]

theorem held_Space (y0 : Ty.Den (.slice (.int .i64))) (y1 : Ty.Den (.slice (.slice (.agg (.cons (.int .i64) (.cons .bool (.cons .bool (.cons .bool .nil)))))))) (y2 : Ty.Den (.slice (.agg (.cons (.int .i64) (.cons (.int .i64) (.cons .bool .nil)))))) (m : Int) (h0 : 0 ≤ m) (h1 : m + ((cnt (.slice (.int .i64)) y0 + cnt (.slice (.slice (.agg (.cons (.int .i64) (.cons .bool (.cons .bool (.cons .bool .nil))))))) y1 + cnt (.slice (.agg (.cons (.int .i64) (.cons (.int .i64) (.cons .bool .nil))))) y2 : Nat) : Int) ≤ wide) (by0 : Bd wide (.slice (.int .i64)) y0) (by1 : Bd wide (.slice (.slice (.agg (.cons (.int .i64) (.cons .bool (.cons .bool (.cons .bool .nil))))))) y1) (by2 : Bd wide (.slice (.agg (.cons (.int .i64) (.cons (.int .i64) (.cons .bool .nil))))) y2) : callOf pr 24 [.agg [.d (.slice (.int .i64)) (markD (.slice (.int .i64)) m y0).1, .d (.slice (.slice (.agg (.cons (.int .i64) (.cons .bool (.cons .bool (.cons .bool .nil))))))) (markD (.slice (.slice (.agg (.cons (.int .i64) (.cons .bool (.cons .bool (.cons .bool .nil))))))) (markD (.slice (.int .i64)) m y0).2 y1).1, .d (.slice (.agg (.cons (.int .i64) (.cons (.int .i64) (.cons .bool .nil))))) (markD (.slice (.agg (.cons (.int .i64) (.cons (.int .i64) (.cons .bool .nil))))) (markD (.slice (.slice (.agg (.cons (.int .i64) (.cons .bool (.cons .bool (.cons .bool .nil))))))) (markD (.slice (.int .i64)) m y0).2 y1).2 y2).1], I m] [] = some (I (markD (.slice (.agg (.cons (.int .i64) (.cons (.int .i64) (.cons .bool .nil))))) (markD (.slice (.slice (.agg (.cons (.int .i64) (.cons .bool (.cons .bool (.cons .bool .nil))))))) (markD (.slice (.int .i64)) m y0).2 y1).2 y2).2, []) := by
  simp only [wide] at h1
  have q0 := markD_end (.slice (.int .i64)) m y0
  have q1 := markD_end (.slice (.slice (.agg (.cons (.int .i64) (.cons .bool (.cons .bool (.cons .bool .nil))))))) (markD (.slice (.int .i64)) m y0).2 y1
  have q2 := markD_end (.slice (.agg (.cons (.int .i64) (.cons (.int .i64) (.cons .bool .nil))))) (markD (.slice (.slice (.agg (.cons (.int .i64) (.cons .bool (.cons .bool (.cons .bool .nil))))))) (markD (.slice (.int .i64)) m y0).2 y1).2 y2
  have f0 := held_Int64S y0 m (by omega) (by simp only [wide]; omega) by0.1
  have n0 : ¬ (markD (.slice (.int .i64)) m y0).2 < 0 := by omega
  have f1 := held_EntrySS y1 (markD (.slice (.int .i64)) m y0).2 (by omega) (by simp only [wide]; omega) by1.1 by1.2
  have n1 : ¬ (markD (.slice (.slice (.agg (.cons (.int .i64) (.cons .bool (.cons .bool (.cons .bool .nil))))))) (markD (.slice (.int .i64)) m y0).2 y1).2 < 0 := by omega
  have f2 := held_CachedS y2 (markD (.slice (.slice (.agg (.cons (.int .i64) (.cons .bool (.cons .bool (.cons .bool .nil))))))) (markD (.slice (.int .i64)) m y0).2 y1).2 (by omega) (by simp only [wide]; omega) by2.1
  have n2 : ¬ (markD (.slice (.agg (.cons (.int .i64) (.cons (.int .i64) (.cons .bool .nil))))) (markD (.slice (.slice (.agg (.cons (.int .i64) (.cons .bool (.cons .bool (.cons .bool .nil))))))) (markD (.slice (.int .i64)) m y0).2 y1).2 y2).2 < 0 := by omega
  rw [call_eq pr 24 _ _ Tryz.f24 fn_24 _ rfl _ ann_24 rfl]
  simp -implicitDefEqProofs only [f0, fa n0, f1, fa n1, f2, fa n2, go_sem, Nat.reduceAdd, Nat.reduceSub, Nat.reduceMul, Nat.reduceMod, Nat.reduceLT, Nat.reduceLeDiff, Nat.reduceEqDiff, Nat.reduceBEq, Nat.reduceDiv, Int.reduceLT, Int.reduceLE, Int.reduceToNat, Int.reduceNeg, Int.reduceEq, ↓reduceIte, reduceCtorEq, ↓reduceDIte]

theorem heldn_Space (m : Int) (h0 : 0 ≤ m) : callOf pr 24 [.agg [.nilS, .nilS, .nilS], I m] [] = some (I m, []) := by
  rw [call_eq pr 24 _ _ Tryz.f24 fn_24 _ rfl _ ann_24 rfl]
  simp -implicitDefEqProofs only [heldn_Int64S, heldn_EntrySS, heldn_CachedS, fa (show ¬ m < 0 by omega), go_sem, Nat.reduceAdd, Nat.reduceSub, Nat.reduceMul, Nat.reduceMod, Nat.reduceLT, Nat.reduceLeDiff, Nat.reduceEqDiff, Nat.reduceBEq, Nat.reduceDiv, Int.reduceLT, Int.reduceLE, Int.reduceToNat, Int.reduceNeg, Int.reduceEq, ↓reduceIte, reduceCtorEq, ↓reduceDIte]
end Go.Proofs.YticpldfkjldepaaGreat.PI
