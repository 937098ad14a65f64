/- The functions of the rows: sizes, copies, comparisons, marks: printed by a program of the session. -/
import Derived.Test.YthmnlokdikomkaaGQStd
import Derived.Test.YthmnlokdikomkaaPIProg
namespace Go.Proofs.Ythmnlokdikomkaa.PI
open Go Go.Q
set_option maxRecDepth 100000
set_option maxHeartbeats 4000000
set_option linter.unusedSimpArgs false
set_option linter.unusedVariables false

theorem sz_RuleS (a : List (Ty.Den (.agg (.cons (.int .i64) (.cons (.int .i64) (.cons .bool .nil)))))) (ha : Bd wide (.slice (.agg (.cons (.int .i64) (.cons (.int .i64) (.cons .bool .nil))))) a) (l : Int) (h0 : 0 ≤ l) (h1 : l ≤ 1048576) : ∃ r, callOf pr 67 [.d (.slice (.agg (.cons (.int .i64) (.cons (.int .i64) (.cons .bool .nil))))) a, I l] [] = some (I r, []) ∧ r ≤ l ∧ (0 ≤ r → Bd small (.slice (.agg (.cons (.int .i64) (.cons (.int .i64) (.cons .bool .nil))))) a) := by
  have hl : a.length ≤ wide := ha.1
  simp only [wide] at hl
  have hw : IntKind.i64.wrap (l - (a.length : Int)) = l - a.length := by rw [wrap_i] <;> omega
  by_cases h : l - (a.length : Int) < 0
  · refine ⟨-1, ?_, by omega, fun h => absurd h (by omega)⟩
    rw [call_eq pr 67 _ _ Try.f67 fn_67 _ rfl _ ann_67 rfl]
    simp -implicitDefEqProofs only [hw, tr h, go_sem, Nat.reduceAdd, Nat.reduceSub, Nat.reduceMul, Nat.reduceMod, Nat.reduceLT, Nat.reduceLeDiff, Nat.reduceEqDiff, Nat.reduceBEq, Nat.reduceDiv, Int.reduceLT, Int.reduceLE, Int.reduceToNat, Int.reduceNeg, Int.reduceEq, ↓reduceIte, reduceCtorEq, ↓reduceDIte]
  · refine ⟨l - a.length, ?_, by omega, fun _ => ⟨?_, fun y _ => Bd.scalar (.agg (.cons (.int .i64) (.cons (.int .i64) (.cons .bool .nil)))) rfl y⟩⟩
    · rw [call_eq pr 67 _ _ Try.f67 fn_67 _ rfl _ ann_67 rfl]
      simp -implicitDefEqProofs only [hw, fa h, go_sem, Nat.reduceAdd, Nat.reduceSub, Nat.reduceMul, Nat.reduceMod, Nat.reduceLT, Nat.reduceLeDiff, Nat.reduceEqDiff, Nat.reduceBEq, Nat.reduceDiv, Int.reduceLT, Int.reduceLE, Int.reduceToNat, Int.reduceNeg, Int.reduceEq, ↓reduceIte, reduceCtorEq, ↓reduceDIte]
    · show a.length ≤ small
      simp only [small]; omega

theorem sz_Protocol (x : Ty.Den (.agg (.cons (.slice (.agg (.cons (.int .i64) (.cons (.int .i64) (.cons .bool .nil))))) (.cons (.slice (.agg (.cons (.int .i64) (.cons (.int .i64) (.cons .bool .nil))))) (.cons (.slice (.agg (.cons (.int .i64) (.cons (.int .i64) (.cons .bool .nil))))) (.cons (.slice (.agg (.cons (.int .i64) (.cons (.int .i64) (.cons .bool .nil))))) (.cons (.slice (.agg (.cons (.int .i64) (.cons (.int .i64) (.cons .bool .nil))))) .nil))))))) (ha : Bd wide (.agg (.cons (.slice (.agg (.cons (.int .i64) (.cons (.int .i64) (.cons .bool .nil))))) (.cons (.slice (.agg (.cons (.int .i64) (.cons (.int .i64) (.cons .bool .nil))))) (.cons (.slice (.agg (.cons (.int .i64) (.cons (.int .i64) (.cons .bool .nil))))) (.cons (.slice (.agg (.cons (.int .i64) (.cons (.int .i64) (.cons .bool .nil))))) (.cons (.slice (.agg (.cons (.int .i64) (.cons (.int .i64) (.cons .bool .nil))))) .nil)))))) x) (l : Int) (h0 : 0 ≤ l) (h1 : l ≤ 1048576) : ∃ r, callOf pr 25 [.agg [.d (.slice (.agg (.cons (.int .i64) (.cons (.int .i64) (.cons .bool .nil))))) x.1, .d (.slice (.agg (.cons (.int .i64) (.cons (.int .i64) (.cons .bool .nil))))) x.2.1, .d (.slice (.agg (.cons (.int .i64) (.cons (.int .i64) (.cons .bool .nil))))) x.2.2.1, .d (.slice (.agg (.cons (.int .i64) (.cons (.int .i64) (.cons .bool .nil))))) x.2.2.2.1, .d (.slice (.agg (.cons (.int .i64) (.cons (.int .i64) (.cons .bool .nil))))) x.2.2.2.2.1], I l] [] = some (I r, []) ∧ r ≤ l ∧ (0 ≤ r → Bd small (.agg (.cons (.slice (.agg (.cons (.int .i64) (.cons (.int .i64) (.cons .bool .nil))))) (.cons (.slice (.agg (.cons (.int .i64) (.cons (.int .i64) (.cons .bool .nil))))) (.cons (.slice (.agg (.cons (.int .i64) (.cons (.int .i64) (.cons .bool .nil))))) (.cons (.slice (.agg (.cons (.int .i64) (.cons (.int .i64) (.cons .bool .nil))))) (.cons (.slice (.agg (.cons (.int .i64) (.cons (.int .i64) (.cons .bool .nil))))) .nil)))))) x) := by
  obtain ⟨r0, r0a, r0b, r0c⟩ := sz_RuleS x.1 ha.1 l (by omega) (by omega)
  by_cases g0 : r0 < 0
  · refine ⟨-1, ?_, by omega, fun h => absurd h (by omega)⟩
    rw [call_eq pr 25 _ _ Try.f25 fn_25 _ rfl _ ann_25 rfl]
    simp -implicitDefEqProofs only [r0a, tr g0, go_sem, Nat.reduceAdd, Nat.reduceSub, Nat.reduceMul, Nat.reduceMod, Nat.reduceLT, Nat.reduceLeDiff, Nat.reduceEqDiff, Nat.reduceBEq, Nat.reduceDiv, Int.reduceLT, Int.reduceLE, Int.reduceToNat, Int.reduceNeg, Int.reduceEq, ↓reduceIte, reduceCtorEq, ↓reduceDIte]
  · skip
    obtain ⟨r1, r1a, r1b, r1c⟩ := sz_RuleS x.2.1 ha.2.1 r0 (by omega) (by omega)
    by_cases g1 : r1 < 0
    · refine ⟨-1, ?_, by omega, fun h => absurd h (by omega)⟩
      rw [call_eq pr 25 _ _ Try.f25 fn_25 _ rfl _ ann_25 rfl]
      simp -implicitDefEqProofs only [r0a, fa g0, r1a, tr g1, go_sem, Nat.reduceAdd, Nat.reduceSub, Nat.reduceMul, Nat.reduceMod, Nat.reduceLT, Nat.reduceLeDiff, Nat.reduceEqDiff, Nat.reduceBEq, Nat.reduceDiv, Int.reduceLT, Int.reduceLE, Int.reduceToNat, Int.reduceNeg, Int.reduceEq, ↓reduceIte, reduceCtorEq, ↓reduceDIte]
    · skip
      obtain ⟨r2, r2a, r2b, r2c⟩ := sz_RuleS x.2.2.1 ha.2.2.1 r1 (by omega) (by omega)
      by_cases g2 : r2 < 0
      · refine ⟨-1, ?_, by omega, fun h => absurd h (by omega)⟩
        rw [call_eq pr 25 _ _ Try.f25 fn_25 _ rfl _ ann_25 rfl]
        simp -implicitDefEqProofs only [r0a, fa g0, r1a, fa g1, r2a, tr g2, go_sem, Nat.reduceAdd, Nat.reduceSub, Nat.reduceMul, Nat.reduceMod, Nat.reduceLT, Nat.reduceLeDiff, Nat.reduceEqDiff, Nat.reduceBEq, Nat.reduceDiv, Int.reduceLT, Int.reduceLE, Int.reduceToNat, Int.reduceNeg, Int.reduceEq, ↓reduceIte, reduceCtorEq, ↓reduceDIte]
      · skip
        obtain ⟨r3, r3a, r3b, r3c⟩ := sz_RuleS x.2.2.2.1 ha.2.2.2.1 r2 (by omega) (by omega)
        by_cases g3 : r3 < 0
        · refine ⟨-1, ?_, by omega, fun h => absurd h (by omega)⟩
          rw [call_eq pr 25 _ _ Try.f25 fn_25 _ rfl _ ann_25 rfl]
          simp -implicitDefEqProofs only [r0a, fa g0, r1a, fa g1, r2a, fa g2, r3a, tr g3, go_sem, Nat.reduceAdd, Nat.reduceSub, Nat.reduceMul, Nat.reduceMod, Nat.reduceLT, Nat.reduceLeDiff, Nat.reduceEqDiff, Nat.reduceBEq, Nat.reduceDiv, Int.reduceLT, Int.reduceLE, Int.reduceToNat, Int.reduceNeg, Int.reduceEq, ↓reduceIte, reduceCtorEq, ↓reduceDIte]
        · skip
          obtain ⟨r4, r4a, r4b, r4c⟩ := sz_RuleS x.2.2.2.2.1 ha.2.2.2.2.1 r3 (by omega) (by omega)
          by_cases g4 : r4 < 0
          · refine ⟨-1, ?_, by omega, fun h => absurd h (by omega)⟩
            rw [call_eq pr 25 _ _ Try.f25 fn_25 _ rfl _ ann_25 rfl]
            simp -implicitDefEqProofs only [r0a, fa g0, r1a, fa g1, r2a, fa g2, r3a, fa g3, r4a, tr g4, go_sem, Nat.reduceAdd, Nat.reduceSub, Nat.reduceMul, Nat.reduceMod, Nat.reduceLT, Nat.reduceLeDiff, Nat.reduceEqDiff, Nat.reduceBEq, Nat.reduceDiv, Int.reduceLT, Int.reduceLE, Int.reduceToNat, Int.reduceNeg, Int.reduceEq, ↓reduceIte, reduceCtorEq, ↓reduceDIte]
          · refine ⟨r4, ?_, by omega, fun _ => ⟨r0c (by omega), r1c (by omega), r2c (by omega), r3c (by omega), r4c (by omega), trivial⟩⟩
            rw [call_eq pr 25 _ _ Try.f25 fn_25 _ rfl _ ann_25 rfl]
            simp -implicitDefEqProofs only [r0a, fa g0, r1a, fa g1, r2a, fa g2, r3a, fa g3, r4a, fa g4, go_sem, Nat.reduceAdd, Nat.reduceSub, Nat.reduceMul, Nat.reduceMod, Nat.reduceLT, Nat.reduceLeDiff, Nat.reduceEqDiff, Nat.reduceBEq, Nat.reduceDiv, Int.reduceLT, Int.reduceLE, Int.reduceToNat, Int.reduceNeg, Int.reduceEq, ↓reduceIte, reduceCtorEq, ↓reduceDIte]

theorem to_Rule (x : Ty.Den (.agg (.cons (.int .i64) (.cons (.int .i64) (.cons .bool .nil))))) : callOf pr 110 [.agg [I x.1, I x.2.1, B x.2.2.1]] [] = some (.agg [I x.1, I x.2.1, B x.2.2.1], []) := by
  rw [call_eq pr 110 _ _ Try.f110 fn_110 _ rfl _ ann_110 rfl]
  simp -implicitDefEqProofs only [go_sem, Nat.reduceAdd, Nat.reduceSub, Nat.reduceMul, Nat.reduceMod, Nat.reduceLT, Nat.reduceLeDiff, Nat.reduceEqDiff, Nat.reduceBEq, Nat.reduceDiv, Int.reduceLT, Int.reduceLE, Int.reduceToNat, Int.reduceNeg, Int.reduceEq, ↓reduceIte, reduceCtorEq, ↓reduceDIte]

theorem tol_RuleS (xs : List (Ty.Den (.agg (.cons (.int .i64) (.cons (.int .i64) (.cons .bool .nil)))))) : ∀ (done : List (Ty.Den (.agg (.cons (.int .i64) (.cons (.int .i64) (.cons .bool .nil)))))), done.length + xs.length ≤ wide →
    loopOf pr 71 0 ⟨[(0, .d (.slice (.agg (.cons (.int .i64) (.cons (.int .i64) (.cons .bool .nil))))) (done ++ xs)), (3, .os (.t 448)), (4, I done.length)], [(448, .arr true false (.agg (.cons (.int .i64) (.cons (.int .i64) (.cons .bool .nil)))) (done ++ List.replicate xs.length ((0 : Int), (0 : Int), false, ())))]⟩ = some (.exit 0, ⟨[(0, .d (.slice (.agg (.cons (.int .i64) (.cons (.int .i64) (.cons .bool .nil))))) (done ++ xs)), (3, .os (.t 448)), (4, I ((done.length + xs.length : Nat) : Int))], [(448, .arr true false (.agg (.cons (.int .i64) (.cons (.int .i64) (.cons .bool .nil)))) (done ++ xs))]⟩) := by
  induction xs with
  | nil =>
    intro done hb
    rw [loop_eq pr 71 0 _ Try.f71 fn_71 _ rfl _ ann_71 _ rfl]
    simp -implicitDefEqProofs only [Int.lt_irrefl, List.append_nil, Nat.add_zero, go_sem, Nat.reduceAdd, Nat.reduceSub, Nat.reduceMul, Nat.reduceMod, Nat.reduceLT, Nat.reduceLeDiff, Nat.reduceEqDiff, Nat.reduceBEq, Nat.reduceDiv, Int.reduceLT, Int.reduceLE, Int.reduceToNat, Int.reduceNeg, Int.reduceEq, ↓reduceIte, reduceCtorEq, ↓reduceDIte]
  | cons x xs ih =>
    intro done hb
    simp only [List.length_cons, wide] at hb
    have hn : IntKind.i64.wrap ((done.length : Int) + 1) = ((done.length + 1 : Nat) : Int) := by rw [wrap_i] <;> omega
    have ih := ih (done ++ [x]) (by simp only [List.length_append, List.length_cons, List.length_nil, wide]; omega)
    have e1 : (done ++ [x]).length = done.length + 1 := by simp
    have e2 : done.length + 1 + xs.length = done.length + (x :: xs).length := by simp; omega
    have e3 : List.replicate (x :: xs).length ((0 : Int), (0 : Int), false, ()) = ((0 : Int), (0 : Int), false, ()) :: List.replicate xs.length ((0 : Int), (0 : Int), false, ()) := rfl
    rw [app_one, app_one, e1, e2] at ih
    rw [e3]
    rw [loop_eq pr 71 0 _ Try.f71 fn_71 _ rfl _ ann_71 _ rfl]
    obtain ⟨a0, a1, a2, ⟨⟩⟩ := x
    simp -implicitDefEqProofs only [getD_app, set_app, lt_app, ltn_app, zero_le_cast, Int.toNat_natCast, hn, to_Rule ((a0, a1, a2, ())), go_sem, Nat.reduceAdd, Nat.reduceSub, Nat.reduceMul, Nat.reduceMod, Nat.reduceLT, Nat.reduceLeDiff, Nat.reduceEqDiff, Nat.reduceBEq, Nat.reduceDiv, Int.reduceLT, Int.reduceLE, Int.reduceToNat, Int.reduceNeg, Int.reduceEq, ↓reduceIte, reduceCtorEq, ↓reduceDIte]
    exact ih
theorem to_RuleS (xs : List (Ty.Den (.agg (.cons (.int .i64) (.cons (.int .i64) (.cons .bool .nil)))))) (hb : xs.length ≤ 1000000000000) : callOf pr 71 [.d (.slice (.agg (.cons (.int .i64) (.cons (.int .i64) (.cons .bool .nil))))) xs] [] = some (.os (.t 448), [(448, .arr true false (.agg (.cons (.int .i64) (.cons (.int .i64) (.cons .bool .nil)))) xs)]) := by
  have h := tol_RuleS xs [] (by simp only [List.length_nil, wide]; omega)
  simp only [List.nil_append, List.length_nil] at h
  have h : loopOf pr 71 0 ⟨[(0, .d (.slice (.agg (.cons (.int .i64) (.cons (.int .i64) (.cons .bool .nil))))) xs), (3, .os (.t 448)), (4, I 0)], [(448, .arr true false (.agg (.cons (.int .i64) (.cons (.int .i64) (.cons .bool .nil)))) (List.replicate xs.length ((0 : Int), (0 : Int), false, ())))]⟩ = _ := h
  have h1 : (((24 : Nat) : Int) * (xs.length : Int) ≤ 140737488355328) = True := by simp; omega
  have h2 : ((xs.length : Int) ≤ 9223372036854775807) = True := by simp; omega
  rw [call_eq pr 71 _ _ Try.f71 fn_71 _ rfl _ ann_71 rfl]
  simp -implicitDefEqProofs only [zero_le_cast, Int.le_refl, h1, h2, Int.toNat_natCast, h, go_sem, Nat.reduceAdd, Nat.reduceSub, Nat.reduceMul, Nat.reduceMod, Nat.reduceLT, Nat.reduceLeDiff, Nat.reduceEqDiff, Nat.reduceBEq, Nat.reduceDiv, Int.reduceLT, Int.reduceLE, Int.reduceToNat, Int.reduceNeg, Int.reduceEq, ↓reduceIte, reduceCtorEq, ↓reduceDIte]

theorem to_Protocol (x : Ty.Den (.agg (.cons (.slice (.agg (.cons (.int .i64) (.cons (.int .i64) (.cons .bool .nil))))) (.cons (.slice (.agg (.cons (.int .i64) (.cons (.int .i64) (.cons .bool .nil))))) (.cons (.slice (.agg (.cons (.int .i64) (.cons (.int .i64) (.cons .bool .nil))))) (.cons (.slice (.agg (.cons (.int .i64) (.cons (.int .i64) (.cons .bool .nil))))) (.cons (.slice (.agg (.cons (.int .i64) (.cons (.int .i64) (.cons .bool .nil))))) .nil))))))) (ha : Bd small (.agg (.cons (.slice (.agg (.cons (.int .i64) (.cons (.int .i64) (.cons .bool .nil))))) (.cons (.slice (.agg (.cons (.int .i64) (.cons (.int .i64) (.cons .bool .nil))))) (.cons (.slice (.agg (.cons (.int .i64) (.cons (.int .i64) (.cons .bool .nil))))) (.cons (.slice (.agg (.cons (.int .i64) (.cons (.int .i64) (.cons .bool .nil))))) (.cons (.slice (.agg (.cons (.int .i64) (.cons (.int .i64) (.cons .bool .nil))))) .nil)))))) x) : callOf pr 27 [.agg [.d (.slice (.agg (.cons (.int .i64) (.cons (.int .i64) (.cons .bool .nil))))) x.1, .d (.slice (.agg (.cons (.int .i64) (.cons (.int .i64) (.cons .bool .nil))))) x.2.1, .d (.slice (.agg (.cons (.int .i64) (.cons (.int .i64) (.cons .bool .nil))))) x.2.2.1, .d (.slice (.agg (.cons (.int .i64) (.cons (.int .i64) (.cons .bool .nil))))) x.2.2.2.1, .d (.slice (.agg (.cons (.int .i64) (.cons (.int .i64) (.cons .bool .nil))))) x.2.2.2.2.1]] [] = some (.agg [.os (.t 384), .os (.t 640), .os (.t 896), .os (.t 1152), .os (.t 1408)], [(384, .arr true false (.agg (.cons (.int .i64) (.cons (.int .i64) (.cons .bool .nil)))) x.1), (640, .arr true false (.agg (.cons (.int .i64) (.cons (.int .i64) (.cons .bool .nil)))) x.2.1), (896, .arr true false (.agg (.cons (.int .i64) (.cons (.int .i64) (.cons .bool .nil)))) x.2.2.1), (1152, .arr true false (.agg (.cons (.int .i64) (.cons (.int .i64) (.cons .bool .nil)))) x.2.2.2.1), (1408, .arr true false (.agg (.cons (.int .i64) (.cons (.int .i64) (.cons .bool .nil)))) x.2.2.2.2.1)]) := by
  have h0 := to_RuleS x.1 (Nat.le_trans ha.1.1 (by decide))
  have h1 := to_RuleS x.2.1 (Nat.le_trans ha.2.1.1 (by decide))
  have h2 := to_RuleS x.2.2.1 (Nat.le_trans ha.2.2.1.1 (by decide))
  have h3 := to_RuleS x.2.2.2.1 (Nat.le_trans ha.2.2.2.1.1 (by decide))
  have h4 := to_RuleS x.2.2.2.2.1 (Nat.le_trans ha.2.2.2.2.1.1 (by decide))
  rw [call_eq pr 27 _ _ Try.f27 fn_27 _ rfl _ ann_27 rfl]
  simp -implicitDefEqProofs only [h0, h1, h2, h3, h4, go_sem, Nat.reduceAdd, Nat.reduceSub, Nat.reduceMul, Nat.reduceMod, Nat.reduceLT, Nat.reduceLeDiff, Nat.reduceEqDiff, Nat.reduceBEq, Nat.reduceDiv, Int.reduceLT, Int.reduceLE, Int.reduceToNat, Int.reduceNeg, Int.reduceEq, ↓reduceIte, reduceCtorEq, ↓reduceDIte]

theorem eq_Rule (x : Ty.Den (.agg (.cons (.int .i64) (.cons (.int .i64) (.cons .bool .nil))))) : callOf pr 111 [.agg [I x.1, I x.2.1, B x.2.2.1], .agg [I x.1, I x.2.1, B x.2.2.1]] [] = some (B true, []) := by
  rw [call_eq pr 111 _ _ Try.f111 fn_111 _ rfl _ ann_111 rfl]
  simp -implicitDefEqProofs only [BEq.rfl, beq_self_eq_true, decide_true, go_sem, Nat.reduceAdd, Nat.reduceSub, Nat.reduceMul, Nat.reduceMod, Nat.reduceLT, Nat.reduceLeDiff, Nat.reduceEqDiff, Nat.reduceBEq, Nat.reduceDiv, Int.reduceLT, Int.reduceLE, Int.reduceToNat, Int.reduceNeg, Int.reduceEq, ↓reduceIte, reduceCtorEq, ↓reduceDIte]

theorem eql_RuleS (xs : List (Ty.Den (.agg (.cons (.int .i64) (.cons (.int .i64) (.cons .bool .nil)))))) : ∀ (done : List (Ty.Den (.agg (.cons (.int .i64) (.cons (.int .i64) (.cons .bool .nil)))))), done.length + xs.length ≤ wide → (∀ x ∈ xs, Bd wide (.agg (.cons (.int .i64) (.cons (.int .i64) (.cons .bool .nil)))) x) →
    loopOf pr 72 0 ⟨[(0, .d (.slice (.agg (.cons (.int .i64) (.cons (.int .i64) (.cons .bool .nil))))) (done ++ xs)), (1, .d (.slice (.agg (.cons (.int .i64) (.cons (.int .i64) (.cons .bool .nil))))) (done ++ xs)), (5, I done.length)], []⟩ = some (.exit 0, ⟨[(0, .d (.slice (.agg (.cons (.int .i64) (.cons (.int .i64) (.cons .bool .nil))))) (done ++ xs)), (1, .d (.slice (.agg (.cons (.int .i64) (.cons (.int .i64) (.cons .bool .nil))))) (done ++ xs)), (5, I ((done.length + xs.length : Nat) : Int))], []⟩) := by
  induction xs with
  | nil =>
    intro done hb hx
    rw [loop_eq pr 72 0 _ Try.f72 fn_72 _ rfl _ ann_72 _ rfl]
    simp -implicitDefEqProofs only [Int.lt_irrefl, List.append_nil, Nat.add_zero, go_sem, Nat.reduceAdd, Nat.reduceSub, Nat.reduceMul, Nat.reduceMod, Nat.reduceLT, Nat.reduceLeDiff, Nat.reduceEqDiff, Nat.reduceBEq, Nat.reduceDiv, Int.reduceLT, Int.reduceLE, Int.reduceToNat, Int.reduceNeg, Int.reduceEq, ↓reduceIte, reduceCtorEq, ↓reduceDIte]
  | cons x xs ih =>
    intro done hb hx
    simp only [List.length_cons, wide] at hb
    have hn : IntKind.i64.wrap ((done.length : Int) + 1) = ((done.length + 1 : Nat) : Int) := by rw [wrap_i] <;> omega
    have ih := ih (done ++ [x]) (by simp only [List.length_append, List.length_cons, List.length_nil, wide]; omega) (fun y hy => hx y (by simp [hy]))
    have e1 : (done ++ [x]).length = done.length + 1 := by simp
    have e2 : done.length + 1 + xs.length = done.length + (x :: xs).length := by simp; omega
    rw [app_one, e1, e2] at ih
    rw [loop_eq pr 72 0 _ Try.f72 fn_72 _ rfl _ ann_72 _ rfl]
    simp -implicitDefEqProofs only [getD_app, set_app, lt_app, ltn_app, zero_le_cast, Int.toNat_natCast, hn, BEq.rfl, beq_self_eq_true, decide_true, eq_Rule x, go_sem, Nat.reduceAdd, Nat.reduceSub, Nat.reduceMul, Nat.reduceMod, Nat.reduceLT, Nat.reduceLeDiff, Nat.reduceEqDiff, Nat.reduceBEq, Nat.reduceDiv, Int.reduceLT, Int.reduceLE, Int.reduceToNat, Int.reduceNeg, Int.reduceEq, ↓reduceIte, reduceCtorEq, ↓reduceDIte]
    exact ih
theorem eq_RuleS (xs : List (Ty.Den (.agg (.cons (.int .i64) (.cons (.int .i64) (.cons .bool .nil)))))) (ha : Bd wide (.slice (.agg (.cons (.int .i64) (.cons (.int .i64) (.cons .bool .nil))))) xs) : callOf pr 72 [.d (.slice (.agg (.cons (.int .i64) (.cons (.int .i64) (.cons .bool .nil))))) xs, .d (.slice (.agg (.cons (.int .i64) (.cons (.int .i64) (.cons .bool .nil))))) xs] [] = some (B true, []) := by
  have h := eql_RuleS xs [] (by rw [List.length_nil, Nat.zero_add]; exact ha.1) ha.2
  simp only [List.nil_append, List.length_nil] at h
  have h : loopOf pr 72 0 ⟨[(0, .d (.slice (.agg (.cons (.int .i64) (.cons (.int .i64) (.cons .bool .nil))))) xs), (1, .d (.slice (.agg (.cons (.int .i64) (.cons (.int .i64) (.cons .bool .nil))))) xs), (5, I 0)], []⟩ = _ := h
  rw [call_eq pr 72 _ _ Try.f72 fn_72 _ rfl _ ann_72 rfl]
  simp -implicitDefEqProofs only [h, go_sem, Nat.reduceAdd, Nat.reduceSub, Nat.reduceMul, Nat.reduceMod, Nat.reduceLT, Nat.reduceLeDiff, Nat.reduceEqDiff, Nat.reduceBEq, Nat.reduceDiv, Int.reduceLT, Int.reduceLE, Int.reduceToNat, Int.reduceNeg, Int.reduceEq, ↓reduceIte, reduceCtorEq, ↓reduceDIte]
theorem eq_Protocol (x : Ty.Den (.agg (.cons (.slice (.agg (.cons (.int .i64) (.cons (.int .i64) (.cons .bool .nil))))) (.cons (.slice (.agg (.cons (.int .i64) (.cons (.int .i64) (.cons .bool .nil))))) (.cons (.slice (.agg (.cons (.int .i64) (.cons (.int .i64) (.cons .bool .nil))))) (.cons (.slice (.agg (.cons (.int .i64) (.cons (.int .i64) (.cons .bool .nil))))) (.cons (.slice (.agg (.cons (.int .i64) (.cons (.int .i64) (.cons .bool .nil))))) .nil))))))) (ha : Bd wide (.agg (.cons (.slice (.agg (.cons (.int .i64) (.cons (.int .i64) (.cons .bool .nil))))) (.cons (.slice (.agg (.cons (.int .i64) (.cons (.int .i64) (.cons .bool .nil))))) (.cons (.slice (.agg (.cons (.int .i64) (.cons (.int .i64) (.cons .bool .nil))))) (.cons (.slice (.agg (.cons (.int .i64) (.cons (.int .i64) (.cons .bool .nil))))) (.cons (.slice (.agg (.cons (.int .i64) (.cons (.int .i64) (.cons .bool .nil))))) .nil)))))) x) : callOf pr 28 [.agg [.d (.slice (.agg (.cons (.int .i64) (.cons (.int .i64) (.cons .bool .nil))))) x.1, .d (.slice (.agg (.cons (.int .i64) (.cons (.int .i64) (.cons .bool .nil))))) x.2.1, .d (.slice (.agg (.cons (.int .i64) (.cons (.int .i64) (.cons .bool .nil))))) x.2.2.1, .d (.slice (.agg (.cons (.int .i64) (.cons (.int .i64) (.cons .bool .nil))))) x.2.2.2.1, .d (.slice (.agg (.cons (.int .i64) (.cons (.int .i64) (.cons .bool .nil))))) x.2.2.2.2.1], .agg [.d (.slice (.agg (.cons (.int .i64) (.cons (.int .i64) (.cons .bool .nil))))) x.1, .d (.slice (.agg (.cons (.int .i64) (.cons (.int .i64) (.cons .bool .nil))))) x.2.1, .d (.slice (.agg (.cons (.int .i64) (.cons (.int .i64) (.cons .bool .nil))))) x.2.2.1, .d (.slice (.agg (.cons (.int .i64) (.cons (.int .i64) (.cons .bool .nil))))) x.2.2.2.1, .d (.slice (.agg (.cons (.int .i64) (.cons (.int .i64) (.cons .bool .nil))))) x.2.2.2.2.1]] [] = some (B true, []) := by
  rw [call_eq pr 28 _ _ Try.f28 fn_28 _ rfl _ ann_28 rfl]
  simp -implicitDefEqProofs only [BEq.rfl, beq_self_eq_true, decide_true, eq_RuleS x.1 ha.1, eq_RuleS x.2.1 ha.2.1, eq_RuleS x.2.2.1 ha.2.2.1, eq_RuleS x.2.2.2.1 ha.2.2.2.1, eq_RuleS x.2.2.2.2.1 ha.2.2.2.2.1, go_sem, Nat.reduceAdd, Nat.reduceSub, Nat.reduceMul, Nat.reduceMod, Nat.reduceLT, Nat.reduceLeDiff, Nat.reduceEqDiff, Nat.reduceBEq, Nat.reduceDiv, Int.reduceLT, Int.reduceLE, Int.reduceToNat, Int.reduceNeg, Int.reduceEq, ↓reduceIte, reduceCtorEq, ↓reduceDIte]
theorem eq_Op (x : Ty.Den (.agg (.cons (.int .i64) (.cons (.int .i64) .nil)))) : callOf pr 88 [.agg [I x.1, I x.2.1], .agg [I x.1, I x.2.1]] [] = some (B true, []) := by
  rw [call_eq pr 88 _ _ Try.f88 fn_88 _ rfl _ ann_88 rfl]
  simp -implicitDefEqProofs only [BEq.rfl, beq_self_eq_true, decide_true, go_sem, Nat.reduceAdd, Nat.reduceSub, Nat.reduceMul, Nat.reduceMod, Nat.reduceLT, Nat.reduceLeDiff, Nat.reduceEqDiff, Nat.reduceBEq, Nat.reduceDiv, Int.reduceLT, Int.reduceLE, Int.reduceToNat, Int.reduceNeg, Int.reduceEq, ↓reduceIte, reduceCtorEq, ↓reduceDIte]

theorem eql_OpS (xs : List (Ty.Den (.agg (.cons (.int .i64) (.cons (.int .i64) .nil))))) : ∀ (done : List (Ty.Den (.agg (.cons (.int .i64) (.cons (.int .i64) .nil))))), done.length + xs.length ≤ wide → (∀ x ∈ xs, Bd wide (.agg (.cons (.int .i64) (.cons (.int .i64) .nil))) x) →
    loopOf pr 39 0 ⟨[(0, .d (.slice (.agg (.cons (.int .i64) (.cons (.int .i64) .nil)))) (done ++ xs)), (1, .d (.slice (.agg (.cons (.int .i64) (.cons (.int .i64) .nil)))) (done ++ xs)), (5, I done.length)], []⟩ = some (.exit 0, ⟨[(0, .d (.slice (.agg (.cons (.int .i64) (.cons (.int .i64) .nil)))) (done ++ xs)), (1, .d (.slice (.agg (.cons (.int .i64) (.cons (.int .i64) .nil)))) (done ++ xs)), (5, I ((done.length + xs.length : Nat) : Int))], []⟩) := by
  induction xs with
  | nil =>
    intro done hb hx
    rw [loop_eq pr 39 0 _ Try.f39 fn_39 _ rfl _ ann_39 _ rfl]
    simp -implicitDefEqProofs only [Int.lt_irrefl, List.append_nil, Nat.add_zero, go_sem, Nat.reduceAdd, Nat.reduceSub, Nat.reduceMul, Nat.reduceMod, Nat.reduceLT, Nat.reduceLeDiff, Nat.reduceEqDiff, Nat.reduceBEq, Nat.reduceDiv, Int.reduceLT, Int.reduceLE, Int.reduceToNat, Int.reduceNeg, Int.reduceEq, ↓reduceIte, reduceCtorEq, ↓reduceDIte]
  | cons x xs ih =>
    intro done hb hx
    simp only [List.length_cons, wide] at hb
    have hn : IntKind.i64.wrap ((done.length : Int) + 1) = ((done.length + 1 : Nat) : Int) := by rw [wrap_i] <;> omega
    have ih := ih (done ++ [x]) (by simp only [List.length_append, List.length_cons, List.length_nil, wide]; omega) (fun y hy => hx y (by simp [hy]))
    have e1 : (done ++ [x]).length = done.length + 1 := by simp
    have e2 : done.length + 1 + xs.length = done.length + (x :: xs).length := by simp; omega
    rw [app_one, e1, e2] at ih
    rw [loop_eq pr 39 0 _ Try.f39 fn_39 _ rfl _ ann_39 _ rfl]
    simp -implicitDefEqProofs only [getD_app, set_app, lt_app, ltn_app, zero_le_cast, Int.toNat_natCast, hn, BEq.rfl, beq_self_eq_true, decide_true, eq_Op x, go_sem, Nat.reduceAdd, Nat.reduceSub, Nat.reduceMul, Nat.reduceMod, Nat.reduceLT, Nat.reduceLeDiff, Nat.reduceEqDiff, Nat.reduceBEq, Nat.reduceDiv, Int.reduceLT, Int.reduceLE, Int.reduceToNat, Int.reduceNeg, Int.reduceEq, ↓reduceIte, reduceCtorEq, ↓reduceDIte]
    exact ih
theorem eq_OpS (xs : List (Ty.Den (.agg (.cons (.int .i64) (.cons (.int .i64) .nil))))) (ha : Bd wide (.slice (.agg (.cons (.int .i64) (.cons (.int .i64) .nil)))) xs) : callOf pr 39 [.d (.slice (.agg (.cons (.int .i64) (.cons (.int .i64) .nil)))) xs, .d (.slice (.agg (.cons (.int .i64) (.cons (.int .i64) .nil)))) xs] [] = some (B true, []) := by
  have h := eql_OpS xs [] (by rw [List.length_nil, Nat.zero_add]; exact ha.1) ha.2
  simp only [List.nil_append, List.length_nil] at h
  have h : loopOf pr 39 0 ⟨[(0, .d (.slice (.agg (.cons (.int .i64) (.cons (.int .i64) .nil)))) xs), (1, .d (.slice (.agg (.cons (.int .i64) (.cons (.int .i64) .nil)))) xs), (5, I 0)], []⟩ = _ := h
  rw [call_eq pr 39 _ _ Try.f39 fn_39 _ rfl _ ann_39 rfl]
  simp -implicitDefEqProofs only [h, go_sem, Nat.reduceAdd, Nat.reduceSub, Nat.reduceMul, Nat.reduceMod, Nat.reduceLT, Nat.reduceLeDiff, Nat.reduceEqDiff, Nat.reduceBEq, Nat.reduceDiv, Int.reduceLT, Int.reduceLE, Int.reduceToNat, Int.reduceNeg, Int.reduceEq, ↓reduceIte, reduceCtorEq, ↓reduceDIte]
theorem eqn_OpS : callOf pr 39 [.nilS, .nilS] [] = some (B true, []) := by
  have h : loopOf pr 39 0 ⟨[(0, .nilS), (1, .nilS), (5, I 0)], []⟩ = some (.exit 0, ⟨[(0, .nilS), (1, .nilS), (5, I 0)], []⟩) := by
    rw [loop_eq pr 39 0 _ Try.f39 fn_39 _ rfl _ ann_39 _ rfl]
    simp -implicitDefEqProofs only [Int.lt_irrefl, go_sem, Nat.reduceAdd, Nat.reduceSub, Nat.reduceMul, Nat.reduceMod, Nat.reduceLT, Nat.reduceLeDiff, Nat.reduceEqDiff, Nat.reduceBEq, Nat.reduceDiv, Int.reduceLT, Int.reduceLE, Int.reduceToNat, Int.reduceNeg, Int.reduceEq, ↓reduceIte, reduceCtorEq, ↓reduceDIte]
  rw [call_eq pr 39 _ _ Try.f39 fn_39 _ rfl _ ann_39 rfl]
  simp -implicitDefEqProofs only [h, go_sem, Nat.reduceAdd, Nat.reduceSub, Nat.reduceMul, Nat.reduceMod, Nat.reduceLT, Nat.reduceLeDiff, Nat.reduceEqDiff, Nat.reduceBEq, Nat.reduceDiv, Int.reduceLT, Int.reduceLE, Int.reduceToNat, Int.reduceNeg, Int.reduceEq, ↓reduceIte, reduceCtorEq, ↓reduceDIte]
theorem markl_RuleS (xs : List (Ty.Den (.agg (.cons (.int .i64) (.cons (.int .i64) (.cons .bool .nil)))))) : ∀ (done : List (Ty.Den (.agg (.cons (.int .i64) (.cons (.int .i64) (.cons .bool .nil)))))) (m : Int), 0 ≤ m → m + cnt (.slice (.agg (.cons (.int .i64) (.cons (.int .i64) (.cons .bool .nil))))) xs ≤ wide → done.length + xs.length ≤ wide →
    loopOf pr 83 0 ⟨[(0, .os (.t 1000000)), (1, I m), (5, I done.length)], [(1000000, .arr false false (.agg (.cons (.int .i64) (.cons (.int .i64) (.cons .bool .nil)))) (done ++ xs))]⟩ = some (.exit 0, ⟨[(0, .os (.t 1000000)), (1, I (markD (.slice (.agg (.cons (.int .i64) (.cons (.int .i64) (.cons .bool .nil))))) m xs).2), (5, I ((done.length + xs.length : Nat) : Int))], [(1000000, .arr false false (.agg (.cons (.int .i64) (.cons (.int .i64) (.cons .bool .nil)))) (done ++ (markD (.slice (.agg (.cons (.int .i64) (.cons (.int .i64) (.cons .bool .nil))))) m xs).1))]⟩) := by
  induction xs with
  | nil =>
    intro done m h0 h1 hb
    rw [loop_eq pr 83 0 _ Try.f83 fn_83 _ rfl _ ann_83 _ rfl]
    simp only [markD_slice, markS_nil]
    simp -implicitDefEqProofs only [Int.lt_irrefl, List.append_nil, Nat.add_zero, go_sem, Nat.reduceAdd, Nat.reduceSub, Nat.reduceMul, Nat.reduceMod, Nat.reduceLT, Nat.reduceLeDiff, Nat.reduceEqDiff, Nat.reduceBEq, Nat.reduceDiv, Int.reduceLT, Int.reduceLE, Int.reduceToNat, Int.reduceNeg, Int.reduceEq, ↓reduceIte, reduceCtorEq, ↓reduceDIte]
  | cons x xs ih =>
    intro done m h0 h1 hb
    simp only [List.length_cons, wide] at hb
    have hn : IntKind.i64.wrap ((done.length : Int) + 1) = ((done.length + 1 : Nat) : Int) := by rw [wrap_i] <;> omega
    have hc : cnt (.slice (.agg (.cons (.int .i64) (.cons (.int .i64) (.cons .bool .nil))))) (x :: xs) = 3 + cnt (.slice (.agg (.cons (.int .i64) (.cons (.int .i64) (.cons .bool .nil))))) xs := by simp [cnt, List.map_cons, List.sum_cons]
    rw [hc] at h1
    simp only [wide] at h1
    have hw0 : IntKind.i64.wrap (m + 1) = m + 1 := by rw [wrap_i] <;> omega
    have hw1 : IntKind.i64.wrap (m + 1 + 1) = m + 1 + 1 := by rw [wrap_i] <;> omega
    have hw2 : IntKind.i64.wrap (m + 1 + 1 + 1) = m + 1 + 1 + 1 := by rw [wrap_i] <;> omega
    have ih := ih (done ++ [(m, (m + 1), (decide (Int.tmod (m + 1 + 1) 3 = 0)), ())]) (m + 1 + 1 + 1) (by omega) (by simp only [wide]; omega) (by simp only [List.length_append, List.length_cons, List.length_nil, wide]; omega)
    have e1 : (done ++ [(m, (m + 1), (decide (Int.tmod (m + 1 + 1) 3 = 0)), ())]).length = done.length + 1 := by simp
    have e2 : done.length + 1 + xs.length = done.length + (x :: xs).length := by simp; omega
    rw [app_one, app_one, e1, e2] at ih
    rw [loop_eq pr 83 0 _ Try.f83 fn_83 _ rfl _ ann_83 _ rfl]
    obtain ⟨a0, a1, a2, ⟨⟩⟩ := x
    simp -implicitDefEqProofs only [getD_app, set_app, lt_app, ltn_app, zero_le_cast, Int.toNat_natCast, hn, hw0, hw1, hw2, go_sem, Nat.reduceAdd, Nat.reduceSub, Nat.reduceMul, Nat.reduceMod, Nat.reduceLT, Nat.reduceLeDiff, Nat.reduceEqDiff, Nat.reduceBEq, Nat.reduceDiv, Int.reduceLT, Int.reduceLE, Int.reduceToNat, Int.reduceNeg, Int.reduceEq, ↓reduceIte, reduceCtorEq, ↓reduceDIte]
    exact ih
theorem mark_RuleS (xs : List (Ty.Den (.agg (.cons (.int .i64) (.cons (.int .i64) (.cons .bool .nil)))))) (m : Int) (h0 : 0 ≤ m) (h1 : m + cnt (.slice (.agg (.cons (.int .i64) (.cons (.int .i64) (.cons .bool .nil))))) xs ≤ wide) (hb : xs.length ≤ wide) : callOf pr 83 [.os (.t 1000000), I m] [(1000000, .arr false false (.agg (.cons (.int .i64) (.cons (.int .i64) (.cons .bool .nil)))) xs)] = some (I (markD (.slice (.agg (.cons (.int .i64) (.cons (.int .i64) (.cons .bool .nil))))) m xs).2, [(1000000, .arr false false (.agg (.cons (.int .i64) (.cons (.int .i64) (.cons .bool .nil)))) (markD (.slice (.agg (.cons (.int .i64) (.cons (.int .i64) (.cons .bool .nil))))) m xs).1)]) := by
  have h := markl_RuleS xs [] m h0 h1 (by rw [List.length_nil, Nat.zero_add]; exact hb)
  simp only [List.nil_append, List.length_nil] at h
  have h : loopOf pr 83 0 ⟨[(0, .os (.t 1000000)), (1, I m), (5, I 0)], [(1000000, .arr false false (.agg (.cons (.int .i64) (.cons (.int .i64) (.cons .bool .nil)))) xs)]⟩ = _ := h
  rw [call_eq pr 83 _ _ Try.f83 fn_83 _ rfl _ ann_83 rfl]
  simp -implicitDefEqProofs only [h, go_sem, Nat.reduceAdd, Nat.reduceSub, Nat.reduceMul, Nat.reduceMod, Nat.reduceLT, Nat.reduceLeDiff, Nat.reduceEqDiff, Nat.reduceBEq, Nat.reduceDiv, Int.reduceLT, Int.reduceLE, Int.reduceToNat, Int.reduceNeg, Int.reduceEq, ↓reduceIte, reduceCtorEq, ↓reduceDIte]
theorem mark_Protocol (y0 : Ty.Den (.slice (.agg (.cons (.int .i64) (.cons (.int .i64) (.cons .bool .nil)))))) (y1 : Ty.Den (.slice (.agg (.cons (.int .i64) (.cons (.int .i64) (.cons .bool .nil)))))) (y2 : Ty.Den (.slice (.agg (.cons (.int .i64) (.cons (.int .i64) (.cons .bool .nil)))))) (y3 : Ty.Den (.slice (.agg (.cons (.int .i64) (.cons (.int .i64) (.cons .bool .nil)))))) (y4 : Ty.Den (.slice (.agg (.cons (.int .i64) (.cons (.int .i64) (.cons .bool .nil)))))) (m : Int) (h0 : 0 ≤ m) (h1 : m + ((cnt (.slice (.agg (.cons (.int .i64) (.cons (.int .i64) (.cons .bool .nil))))) y0 + cnt (.slice (.agg (.cons (.int .i64) (.cons (.int .i64) (.cons .bool .nil))))) y1 + cnt (.slice (.agg (.cons (.int .i64) (.cons (.int .i64) (.cons .bool .nil))))) y2 + cnt (.slice (.agg (.cons (.int .i64) (.cons (.int .i64) (.cons .bool .nil))))) y3 + cnt (.slice (.agg (.cons (.int .i64) (.cons (.int .i64) (.cons .bool .nil))))) y4 : Nat) : Int) ≤ wide) (by0 : Bd wide (.slice (.agg (.cons (.int .i64) (.cons (.int .i64) (.cons .bool .nil))))) y0) (by1 : Bd wide (.slice (.agg (.cons (.int .i64) (.cons (.int .i64) (.cons .bool .nil))))) y1) (by2 : Bd wide (.slice (.agg (.cons (.int .i64) (.cons (.int .i64) (.cons .bool .nil))))) y2) (by3 : Bd wide (.slice (.agg (.cons (.int .i64) (.cons (.int .i64) (.cons .bool .nil))))) y3) (by4 : Bd wide (.slice (.agg (.cons (.int .i64) (.cons (.int .i64) (.cons .bool .nil))))) y4) : callOf pr 35 [.agg [.os (.t 1000000), .os (.t 1000001), .os (.t 1000002), .os (.t 1000003), .os (.t 1000004)], I m] [(1000000, .arr false false (.agg (.cons (.int .i64) (.cons (.int .i64) (.cons .bool .nil)))) y0), (1000001, .arr false false (.agg (.cons (.int .i64) (.cons (.int .i64) (.cons .bool .nil)))) y1), (1000002, .arr false false (.agg (.cons (.int .i64) (.cons (.int .i64) (.cons .bool .nil)))) y2), (1000003, .arr false false (.agg (.cons (.int .i64) (.cons (.int .i64) (.cons .bool .nil)))) y3), (1000004, .arr false false (.agg (.cons (.int .i64) (.cons (.int .i64) (.cons .bool .nil)))) y4)] = some (I (markD (.slice (.agg (.cons (.int .i64) (.cons (.int .i64) (.cons .bool .nil))))) (markD (.slice (.agg (.cons (.int .i64) (.cons (.int .i64) (.cons .bool .nil))))) (markD (.slice (.agg (.cons (.int .i64) (.cons (.int .i64) (.cons .bool .nil))))) (markD (.slice (.agg (.cons (.int .i64) (.cons (.int .i64) (.cons .bool .nil))))) (markD (.slice (.agg (.cons (.int .i64) (.cons (.int .i64) (.cons .bool .nil))))) m y0).2 y1).2 y2).2 y3).2 y4).2, [(1000000, .arr false false (.agg (.cons (.int .i64) (.cons (.int .i64) (.cons .bool .nil)))) (markD (.slice (.agg (.cons (.int .i64) (.cons (.int .i64) (.cons .bool .nil))))) m y0).1), (1000001, .arr false false (.agg (.cons (.int .i64) (.cons (.int .i64) (.cons .bool .nil)))) (markD (.slice (.agg (.cons (.int .i64) (.cons (.int .i64) (.cons .bool .nil))))) (markD (.slice (.agg (.cons (.int .i64) (.cons (.int .i64) (.cons .bool .nil))))) m y0).2 y1).1), (1000002, .arr false false (.agg (.cons (.int .i64) (.cons (.int .i64) (.cons .bool .nil)))) (markD (.slice (.agg (.cons (.int .i64) (.cons (.int .i64) (.cons .bool .nil))))) (markD (.slice (.agg (.cons (.int .i64) (.cons (.int .i64) (.cons .bool .nil))))) (markD (.slice (.agg (.cons (.int .i64) (.cons (.int .i64) (.cons .bool .nil))))) m y0).2 y1).2 y2).1), (1000003, .arr false false (.agg (.cons (.int .i64) (.cons (.int .i64) (.cons .bool .nil)))) (markD (.slice (.agg (.cons (.int .i64) (.cons (.int .i64) (.cons .bool .nil))))) (markD (.slice (.agg (.cons (.int .i64) (.cons (.int .i64) (.cons .bool .nil))))) (markD (.slice (.agg (.cons (.int .i64) (.cons (.int .i64) (.cons .bool .nil))))) (markD (.slice (.agg (.cons (.int .i64) (.cons (.int .i64) (.cons .bool .nil))))) m y0).2 y1).2 y2).2 y3).1), (1000004, .arr false false (.agg (.cons (.int .i64) (.cons (.int .i64) (.cons .bool .nil)))) (markD (.slice (.agg (.cons (.int .i64) (.cons (.int .i64) (.cons .bool .nil))))) (markD (.slice (.agg (.cons (.int .i64) (.cons (.int .i64) (.cons .bool .nil))))) (markD (.slice (.agg (.cons (.int .i64) (.cons (.int .i64) (.cons .bool .nil))))) (markD (.slice (.agg (.cons (.int .i64) (.cons (.int .i64) (.cons .bool .nil))))) (markD (.slice (.agg (.cons (.int .i64) (.cons (.int .i64) (.cons .bool .nil))))) m y0).2 y1).2 y2).2 y3).2 y4).1)]) := by
  simp only [wide] at h1
  have q0 := markD_end (.slice (.agg (.cons (.int .i64) (.cons (.int .i64) (.cons .bool .nil))))) m y0
  have q1 := markD_end (.slice (.agg (.cons (.int .i64) (.cons (.int .i64) (.cons .bool .nil))))) (markD (.slice (.agg (.cons (.int .i64) (.cons (.int .i64) (.cons .bool .nil))))) m y0).2 y1
  have q2 := markD_end (.slice (.agg (.cons (.int .i64) (.cons (.int .i64) (.cons .bool .nil))))) (markD (.slice (.agg (.cons (.int .i64) (.cons (.int .i64) (.cons .bool .nil))))) (markD (.slice (.agg (.cons (.int .i64) (.cons (.int .i64) (.cons .bool .nil))))) m y0).2 y1).2 y2
  have q3 := markD_end (.slice (.agg (.cons (.int .i64) (.cons (.int .i64) (.cons .bool .nil))))) (markD (.slice (.agg (.cons (.int .i64) (.cons (.int .i64) (.cons .bool .nil))))) (markD (.slice (.agg (.cons (.int .i64) (.cons (.int .i64) (.cons .bool .nil))))) (markD (.slice (.agg (.cons (.int .i64) (.cons (.int .i64) (.cons .bool .nil))))) m y0).2 y1).2 y2).2 y3
  have q4 := markD_end (.slice (.agg (.cons (.int .i64) (.cons (.int .i64) (.cons .bool .nil))))) (markD (.slice (.agg (.cons (.int .i64) (.cons (.int .i64) (.cons .bool .nil))))) (markD (.slice (.agg (.cons (.int .i64) (.cons (.int .i64) (.cons .bool .nil))))) (markD (.slice (.agg (.cons (.int .i64) (.cons (.int .i64) (.cons .bool .nil))))) (markD (.slice (.agg (.cons (.int .i64) (.cons (.int .i64) (.cons .bool .nil))))) m y0).2 y1).2 y2).2 y3).2 y4
  have f0 := mark_RuleS y0 m (by omega) (by simp only [wide]; omega) by0.1
  have f1 := mark_RuleS y1 (markD (.slice (.agg (.cons (.int .i64) (.cons (.int .i64) (.cons .bool .nil))))) m y0).2 (by omega) (by simp only [wide]; omega) by1.1
  have f2 := mark_RuleS y2 (markD (.slice (.agg (.cons (.int .i64) (.cons (.int .i64) (.cons .bool .nil))))) (markD (.slice (.agg (.cons (.int .i64) (.cons (.int .i64) (.cons .bool .nil))))) m y0).2 y1).2 (by omega) (by simp only [wide]; omega) by2.1
  have f3 := mark_RuleS y3 (markD (.slice (.agg (.cons (.int .i64) (.cons (.int .i64) (.cons .bool .nil))))) (markD (.slice (.agg (.cons (.int .i64) (.cons (.int .i64) (.cons .bool .nil))))) (markD (.slice (.agg (.cons (.int .i64) (.cons (.int .i64) (.cons .bool .nil))))) m y0).2 y1).2 y2).2 (by omega) (by simp only [wide]; omega) by3.1
  have f4 := mark_RuleS y4 (markD (.slice (.agg (.cons (.int .i64) (.cons (.int .i64) (.cons .bool .nil))))) (markD (.slice (.agg (.cons (.int .i64) (.cons (.int .i64) (.cons .bool .nil))))) (markD (.slice (.agg (.cons (.int .i64) (.cons (.int .i64) (.cons .bool .nil))))) (markD (.slice (.agg (.cons (.int .i64) (.cons (.int .i64) (.cons .bool .nil))))) m y0).2 y1).2 y2).2 y3).2 (by omega) (by simp only [wide]; omega) by4.1
  rw [call_eq pr 35 _ _ Try.f35 fn_35 _ rfl _ ann_35 rfl]
  simp -implicitDefEqProofs only [f0, f1, f2, f3, f4, go_sem, Nat.reduceAdd, Nat.reduceSub, Nat.reduceMul, Nat.reduceMod, Nat.reduceLT, Nat.reduceLeDiff, Nat.reduceEqDiff, Nat.reduceBEq, Nat.reduceDiv, Int.reduceLT, Int.reduceLE, Int.reduceToNat, Int.reduceNeg, Int.reduceEq, ↓reduceIte, reduceCtorEq, ↓reduceDIte]

theorem markl_OpS (xs : List (Ty.Den (.agg (.cons (.int .i64) (.cons (.int .i64) .nil))))) : ∀ (done : List (Ty.Den (.agg (.cons (.int .i64) (.cons (.int .i64) .nil))))) (m : Int), 0 ≤ m → m + cnt (.slice (.agg (.cons (.int .i64) (.cons (.int .i64) .nil)))) xs ≤ wide → done.length + xs.length ≤ wide →
    loopOf pr 40 0 ⟨[(0, .os (.t 1000000)), (1, I m), (5, I done.length)], [(1000000, .arr false false (.agg (.cons (.int .i64) (.cons (.int .i64) .nil))) (done ++ xs))]⟩ = some (.exit 0, ⟨[(0, .os (.t 1000000)), (1, I (markD (.slice (.agg (.cons (.int .i64) (.cons (.int .i64) .nil)))) m xs).2), (5, I ((done.length + xs.length : Nat) : Int))], [(1000000, .arr false false (.agg (.cons (.int .i64) (.cons (.int .i64) .nil))) (done ++ (markD (.slice (.agg (.cons (.int .i64) (.cons (.int .i64) .nil)))) m xs).1))]⟩) := by
  induction xs with
  | nil =>
    intro done m h0 h1 hb
    rw [loop_eq pr 40 0 _ Try.f40 fn_40 _ rfl _ ann_40 _ rfl]
    simp only [markD_slice, markS_nil]
    simp -implicitDefEqProofs only [Int.lt_irrefl, List.append_nil, Nat.add_zero, go_sem, Nat.reduceAdd, Nat.reduceSub, Nat.reduceMul, Nat.reduceMod, Nat.reduceLT, Nat.reduceLeDiff, Nat.reduceEqDiff, Nat.reduceBEq, Nat.reduceDiv, Int.reduceLT, Int.reduceLE, Int.reduceToNat, Int.reduceNeg, Int.reduceEq, ↓reduceIte, reduceCtorEq, ↓reduceDIte]
  | cons x xs ih =>
    intro done m h0 h1 hb
    simp only [List.length_cons, wide] at hb
    have hn : IntKind.i64.wrap ((done.length : Int) + 1) = ((done.length + 1 : Nat) : Int) := by rw [wrap_i] <;> omega
    have hc : cnt (.slice (.agg (.cons (.int .i64) (.cons (.int .i64) .nil)))) (x :: xs) = 2 + cnt (.slice (.agg (.cons (.int .i64) (.cons (.int .i64) .nil)))) xs := by simp [cnt, List.map_cons, List.sum_cons]
    rw [hc] at h1
    simp only [wide] at h1
    have hw0 : IntKind.i64.wrap (m + 1) = m + 1 := by rw [wrap_i] <;> omega
    have hw1 : IntKind.i64.wrap (m + 1 + 1) = m + 1 + 1 := by rw [wrap_i] <;> omega
    have ih := ih (done ++ [(m, (m + 1), ())]) (m + 1 + 1) (by omega) (by simp only [wide]; omega) (by simp only [List.length_append, List.length_cons, List.length_nil, wide]; omega)
    have e1 : (done ++ [(m, (m + 1), ())]).length = done.length + 1 := by simp
    have e2 : done.length + 1 + xs.length = done.length + (x :: xs).length := by simp; omega
    rw [app_one, app_one, e1, e2] at ih
    rw [loop_eq pr 40 0 _ Try.f40 fn_40 _ rfl _ ann_40 _ rfl]
    obtain ⟨a0, a1, ⟨⟩⟩ := x
    simp -implicitDefEqProofs only [getD_app, set_app, lt_app, ltn_app, zero_le_cast, Int.toNat_natCast, hn, hw0, hw1, go_sem, Nat.reduceAdd, Nat.reduceSub, Nat.reduceMul, Nat.reduceMod, Nat.reduceLT, Nat.reduceLeDiff, Nat.reduceEqDiff, Nat.reduceBEq, Nat.reduceDiv, Int.reduceLT, Int.reduceLE, Int.reduceToNat, Int.reduceNeg, Int.reduceEq, ↓reduceIte, reduceCtorEq, ↓reduceDIte]
    exact ih
theorem mark_OpS (xs : List (Ty.Den (.agg (.cons (.int .i64) (.cons (.int .i64) .nil))))) (m : Int) (h0 : 0 ≤ m) (h1 : m + cnt (.slice (.agg (.cons (.int .i64) (.cons (.int .i64) .nil)))) xs ≤ wide) (hb : xs.length ≤ wide) : callOf pr 40 [.os (.t 1000000), I m] [(1000000, .arr false false (.agg (.cons (.int .i64) (.cons (.int .i64) .nil))) xs)] = some (I (markD (.slice (.agg (.cons (.int .i64) (.cons (.int .i64) .nil)))) m xs).2, [(1000000, .arr false false (.agg (.cons (.int .i64) (.cons (.int .i64) .nil))) (markD (.slice (.agg (.cons (.int .i64) (.cons (.int .i64) .nil)))) m xs).1)]) := by
  have h := markl_OpS xs [] m h0 h1 (by rw [List.length_nil, Nat.zero_add]; exact hb)
  simp only [List.nil_append, List.length_nil] at h
  have h : loopOf pr 40 0 ⟨[(0, .os (.t 1000000)), (1, I m), (5, I 0)], [(1000000, .arr false false (.agg (.cons (.int .i64) (.cons (.int .i64) .nil))) xs)]⟩ = _ := h
  rw [call_eq pr 40 _ _ Try.f40 fn_40 _ rfl _ ann_40 rfl]
  simp -implicitDefEqProofs only [h, go_sem, Nat.reduceAdd, Nat.reduceSub, Nat.reduceMul, Nat.reduceMod, Nat.reduceLT, Nat.reduceLeDiff, Nat.reduceEqDiff, Nat.reduceBEq, Nat.reduceDiv, Int.reduceLT, Int.reduceLE, Int.reduceToNat, Int.reduceNeg, Int.reduceEq, ↓reduceIte, reduceCtorEq, ↓reduceDIte]
theorem markn_OpS (m : Int) : callOf pr 40 [.nilS, I m] [] = some (I m, []) := by
  have h : loopOf pr 40 0 ⟨[(0, .nilS), (1, I m), (5, I 0)], []⟩ = some (.exit 0, ⟨[(0, .nilS), (1, I m), (5, I 0)], []⟩) := by
    rw [loop_eq pr 40 0 _ Try.f40 fn_40 _ rfl _ ann_40 _ rfl]
    simp -implicitDefEqProofs only [Int.lt_irrefl, go_sem, Nat.reduceAdd, Nat.reduceSub, Nat.reduceMul, Nat.reduceMod, Nat.reduceLT, Nat.reduceLeDiff, Nat.reduceEqDiff, Nat.reduceBEq, Nat.reduceDiv, Int.reduceLT, Int.reduceLE, Int.reduceToNat, Int.reduceNeg, Int.reduceEq, ↓reduceIte, reduceCtorEq, ↓reduceDIte]
  rw [call_eq pr 40 _ _ Try.f40 fn_40 _ rfl _ ann_40 rfl]
  simp -implicitDefEqProofs only [h, go_sem, Nat.reduceAdd, Nat.reduceSub, Nat.reduceMul, Nat.reduceMod, Nat.reduceLT, Nat.reduceLeDiff, Nat.reduceEqDiff, Nat.reduceBEq, Nat.reduceDiv, Int.reduceLT, Int.reduceLE, Int.reduceToNat, Int.reduceNeg, Int.reduceEq, ↓reduceIte, reduceCtorEq, ↓reduceDIte]

theorem heldl_OpS (xs : List (Ty.Den (.agg (.cons (.int .i64) (.cons (.int .i64) .nil))))) : ∀ (done : List (Ty.Den (.agg (.cons (.int .i64) (.cons (.int .i64) .nil))))) (m : Int), 0 ≤ m → m + cnt (.slice (.agg (.cons (.int .i64) (.cons (.int .i64) .nil)))) xs ≤ wide → done.length + xs.length ≤ wide →
    loopOf pr 41 0 ⟨[(0, .d (.slice (.agg (.cons (.int .i64) (.cons (.int .i64) .nil)))) (done ++ (markD (.slice (.agg (.cons (.int .i64) (.cons (.int .i64) .nil)))) m xs).1)), (1, I m), (5, I done.length)], []⟩ = some (.exit 0, ⟨[(0, .d (.slice (.agg (.cons (.int .i64) (.cons (.int .i64) .nil)))) (done ++ (markD (.slice (.agg (.cons (.int .i64) (.cons (.int .i64) .nil)))) m xs).1)), (1, I (markD (.slice (.agg (.cons (.int .i64) (.cons (.int .i64) .nil)))) m xs).2), (5, I ((done.length + xs.length : Nat) : Int))], []⟩) := by
  induction xs with
  | nil =>
    intro done m h0 h1 hb
    rw [loop_eq pr 41 0 _ Try.f41 fn_41 _ rfl _ ann_41 _ rfl]
    simp only [markD_slice, markS_nil]
    simp -implicitDefEqProofs only [Int.lt_irrefl, List.append_nil, Nat.add_zero, go_sem, Nat.reduceAdd, Nat.reduceSub, Nat.reduceMul, Nat.reduceMod, Nat.reduceLT, Nat.reduceLeDiff, Nat.reduceEqDiff, Nat.reduceBEq, Nat.reduceDiv, Int.reduceLT, Int.reduceLE, Int.reduceToNat, Int.reduceNeg, Int.reduceEq, ↓reduceIte, reduceCtorEq, ↓reduceDIte]
  | cons x xs ih =>
    intro done m h0 h1 hb
    simp only [List.length_cons, wide] at hb
    have hn : IntKind.i64.wrap ((done.length : Int) + 1) = ((done.length + 1 : Nat) : Int) := by rw [wrap_i] <;> omega
    have hc : cnt (.slice (.agg (.cons (.int .i64) (.cons (.int .i64) .nil)))) (x :: xs) = 2 + cnt (.slice (.agg (.cons (.int .i64) (.cons (.int .i64) .nil)))) xs := by simp [cnt, List.map_cons, List.sum_cons]
    rw [hc] at h1
    simp only [wide] at h1
    have hw0 : IntKind.i64.wrap (m + 1) = m + 1 := by rw [wrap_i] <;> omega
    have hw1 : IntKind.i64.wrap (m + 1 + 1) = m + 1 + 1 := by rw [wrap_i] <;> omega
    have ih := ih (done ++ [(m, (m + 1), ())]) (m + 1 + 1) (by omega) (by simp only [wide]; omega) (by simp only [List.length_append, List.length_cons, List.length_nil, wide]; omega)
    have e1 : (done ++ [(m, (m + 1), ())]).length = done.length + 1 := by simp
    have e2 : done.length + 1 + xs.length = done.length + (x :: xs).length := by simp; omega
    rw [app_one, e1, e2] at ih
    have em : (markD (.slice (.agg (.cons (.int .i64) (.cons (.int .i64) .nil)))) m (x :: xs)) = ((m, (m + 1), ()) :: (markD (.slice (.agg (.cons (.int .i64) (.cons (.int .i64) .nil)))) (m + 1 + 1) xs).1, (markD (.slice (.agg (.cons (.int .i64) (.cons (.int .i64) .nil)))) (m + 1 + 1) xs).2) := rfl
    rw [em]
    simp only
    rw [loop_eq pr 41 0 _ Try.f41 fn_41 _ rfl _ ann_41 _ rfl]
    simp -implicitDefEqProofs only [getD_app, set_app, lt_app, ltn_app, zero_le_cast, Int.toNat_natCast, hn, BEq.rfl, beq_self_eq_true, decide_true, hw0, hw1, go_sem, Nat.reduceAdd, Nat.reduceSub, Nat.reduceMul, Nat.reduceMod, Nat.reduceLT, Nat.reduceLeDiff, Nat.reduceEqDiff, Nat.reduceBEq, Nat.reduceDiv, Int.reduceLT, Int.reduceLE, Int.reduceToNat, Int.reduceNeg, Int.reduceEq, ↓reduceIte, reduceCtorEq, ↓reduceDIte]
    exact ih
theorem held_OpS (xs : List (Ty.Den (.agg (.cons (.int .i64) (.cons (.int .i64) .nil))))) (m : Int) (h0 : 0 ≤ m) (h1 : m + cnt (.slice (.agg (.cons (.int .i64) (.cons (.int .i64) .nil)))) xs ≤ wide) (hb : xs.length ≤ wide) : callOf pr 41 [.d (.slice (.agg (.cons (.int .i64) (.cons (.int .i64) .nil)))) (markD (.slice (.agg (.cons (.int .i64) (.cons (.int .i64) .nil)))) m xs).1, I m] [] = some (I (markD (.slice (.agg (.cons (.int .i64) (.cons (.int .i64) .nil)))) m xs).2, []) := by
  have h := heldl_OpS xs [] m h0 h1 (by rw [List.length_nil, Nat.zero_add]; exact hb)
  simp only [List.nil_append, List.length_nil] at h
  have h : loopOf pr 41 0 ⟨[(0, .d (.slice (.agg (.cons (.int .i64) (.cons (.int .i64) .nil)))) (markD (.slice (.agg (.cons (.int .i64) (.cons (.int .i64) .nil)))) m xs).1), (1, I m), (5, I 0)], []⟩ = _ := h
  rw [call_eq pr 41 _ _ Try.f41 fn_41 _ rfl _ ann_41 rfl]
  simp -implicitDefEqProofs only [h, go_sem, Nat.reduceAdd, Nat.reduceSub, Nat.reduceMul, Nat.reduceMod, Nat.reduceLT, Nat.reduceLeDiff, Nat.reduceEqDiff, Nat.reduceBEq, Nat.reduceDiv, Int.reduceLT, Int.reduceLE, Int.reduceToNat, Int.reduceNeg, Int.reduceEq, ↓reduceIte, reduceCtorEq, ↓reduceDIte]
theorem heldn_OpS (m : Int) : callOf pr 41 [.nilS, I m] [] = some (I m, []) := by
  have h : loopOf pr 41 0 ⟨[(0, .nilS), (1, I m), (5, I 0)], []⟩ = some (.exit 0, ⟨[(0, .nilS), (1, I m), (5, I 0)], []⟩) := by
    rw [loop_eq pr 41 0 _ Try.f41 fn_41 _ rfl _ ann_41 _ rfl]
    simp -implicitDefEqProofs only [Int.lt_irrefl, go_sem, Nat.reduceAdd, Nat.reduceSub, Nat.reduceMul, Nat.reduceMod, Nat.reduceLT, Nat.reduceLeDiff, Nat.reduceEqDiff, Nat.reduceBEq, Nat.reduceDiv, Int.reduceLT, Int.reduceLE, Int.reduceToNat, Int.reduceNeg, Int.reduceEq, ↓reduceIte, reduceCtorEq, ↓reduceDIte]
  rw [call_eq pr 41 _ _ Try.f41 fn_41 _ rfl _ ann_41 rfl]
  simp -implicitDefEqProofs only [h, go_sem, Nat.reduceAdd, Nat.reduceSub, Nat.reduceMul, Nat.reduceMod, Nat.reduceLT, Nat.reduceLeDiff, Nat.reduceEqDiff, Nat.reduceBEq, Nat.reduceDiv, Int.reduceLT, Int.reduceLE, Int.reduceToNat, Int.reduceNeg, Int.reduceEq, ↓reduceIte, reduceCtorEq, ↓reduceDIte]
end Go.Proofs.Ythmnlokdikomkaa.PI
