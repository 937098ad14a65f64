/- The functions of the rows: sizes, copies, comparisons, marks: printed by a program of the session. -/
import Derived.Test.YticbfkoialmojaaGQStd
import Derived.Test.YticbfkoialmojaaPIProg
namespace Go.Proofs.Yticbfkoialmojaa.PI
open Go Go.Q
set_option maxRecDepth 100000
set_option maxHeartbeats 4000000
set_option linter.unusedSimpArgs false
set_option linter.unusedVariables false

theorem sz_Int64S (a : List (Ty.Den (.int .i64))) (ha : Bd wide (.slice (.int .i64)) a) (l : Int) (h0 : 0 ≤ l) (h1 : l ≤ 1048576) : ∃ r, callOf pr 24 [.d (.slice (.int .i64)) a, I l] [] = some (I r, []) ∧ r ≤ l ∧ (0 ≤ r → Bd small (.slice (.int .i64)) a) := by
  have hl : a.length ≤ wide := ha.1
  simp only [wide] at hl
  have hw : IntKind.i64.wrap (l - (a.length : Int)) = l - a.length := by rw [wrap_i] <;> omega
  by_cases h : l - (a.length : Int) < 0
  · refine ⟨-1, ?_, by omega, fun h => absurd h (by omega)⟩
    rw [call_eq pr 24 _ _ Try.f24 fn_24 _ rfl _ ann_24 rfl]
    simp -implicitDefEqProofs only [hw, tr h, go_sem, Nat.reduceAdd, Nat.reduceSub, Nat.reduceMul, Nat.reduceMod, Nat.reduceLT, Nat.reduceLeDiff, Nat.reduceEqDiff, Nat.reduceBEq, Nat.reduceDiv, Int.reduceLT, Int.reduceLE, Int.reduceToNat, Int.reduceNeg, Int.reduceEq, ↓reduceIte, reduceCtorEq, ↓reduceDIte]
  · refine ⟨l - a.length, ?_, by omega, fun _ => ⟨?_, fun y _ => Bd.scalar (.int .i64) rfl y⟩⟩
    · rw [call_eq pr 24 _ _ Try.f24 fn_24 _ rfl _ ann_24 rfl]
      simp -implicitDefEqProofs only [hw, fa h, go_sem, Nat.reduceAdd, Nat.reduceSub, Nat.reduceMul, Nat.reduceMod, Nat.reduceLT, Nat.reduceLeDiff, Nat.reduceEqDiff, Nat.reduceBEq, Nat.reduceDiv, Int.reduceLT, Int.reduceLE, Int.reduceToNat, Int.reduceNeg, Int.reduceEq, ↓reduceIte, reduceCtorEq, ↓reduceDIte]
    · show a.length ≤ small
      simp only [small]; omega

theorem szl_Int64SS (xs : List (Ty.Den (.slice (.int .i64)))) : ∀ (done : List (Ty.Den (.slice (.int .i64)))) (l : Int), 0 ≤ l → l ≤ 1048576 → done.length + xs.length ≤ wide → (∀ x ∈ xs, Bd wide (.slice (.int .i64)) x) →
    (∃ r, 0 ≤ r ∧ r ≤ l ∧ (∀ x ∈ xs, Bd small (.slice (.int .i64)) x) ∧ loopOf pr 23 0 ⟨[(0, .d (.slice (.slice (.int .i64))) (done ++ xs)), (1, I l), (5, I done.length)], []⟩ = some (.exit 0, ⟨[(0, .d (.slice (.slice (.int .i64))) (done ++ xs)), (1, I r), (5, I ((done.length + xs.length : Nat) : Int))], []⟩)) ∨ loopOf pr 23 0 ⟨[(0, .d (.slice (.slice (.int .i64))) (done ++ xs)), (1, I l), (5, I done.length)], []⟩ = some (.ret, ⟨[(4, I (-1))], []⟩) := by
  induction xs with
  | nil =>
    intro done l h0 h1 hb hx
    refine .inl ⟨l, h0, Int.le_refl _, by simp, ?_⟩
    rw [loop_eq pr 23 0 _ Try.f23 fn_23 _ rfl _ ann_23 _ rfl]
    simp -implicitDefEqProofs only [Int.lt_irrefl, List.append_nil, Nat.add_zero, go_sem, Nat.reduceAdd, Nat.reduceSub, Nat.reduceMul, Nat.reduceMod, Nat.reduceLT, Nat.reduceLeDiff, Nat.reduceEqDiff, Nat.reduceBEq, Nat.reduceDiv, Int.reduceLT, Int.reduceLE, Int.reduceToNat, Int.reduceNeg, Int.reduceEq, ↓reduceIte, reduceCtorEq, ↓reduceDIte]
  | cons x xs ih =>
    intro done l h0 h1 hb hx
    simp only [List.length_cons, wide] at hb
    obtain ⟨r, hr1, hr2, hr3⟩ := sz_Int64S x (hx x (by simp)) l h0 h1
    rw [loop_eq pr 23 0 _ Try.f23 fn_23 _ rfl _ ann_23 _ rfl]
    by_cases h : r < 0
    · right
      simp -implicitDefEqProofs only [getD_app, set_app, lt_app, ltn_app, zero_le_cast, Int.toNat_natCast, hr1, tr h, go_sem, Nat.reduceAdd, Nat.reduceSub, Nat.reduceMul, Nat.reduceMod, Nat.reduceLT, Nat.reduceLeDiff, Nat.reduceEqDiff, Nat.reduceBEq, Nat.reduceDiv, Int.reduceLT, Int.reduceLE, Int.reduceToNat, Int.reduceNeg, Int.reduceEq, ↓reduceIte, reduceCtorEq, ↓reduceDIte]
    · have hn : IntKind.i64.wrap ((done.length : Int) + 1) = ((done.length + 1 : Nat) : Int) := by rw [wrap_i] <;> omega
      have ih := ih (done ++ [x]) r (by omega) (by omega) (by simp only [List.length_append, List.length_cons, List.length_nil, wide]; omega) (fun y hy => hx y (by simp [hy]))
      have e1 : (done ++ [x]).length = done.length + 1 := by simp
      have e2 : done.length + 1 + xs.length = done.length + (x :: xs).length := by simp; omega
      rw [app_one, e1, e2] at ih
      rcases ih with ⟨q, q1, q2, q3, q4⟩ | q
      · refine .inl ⟨q, q1, by omega, ?_, ?_⟩
        · intro y hy
          rw [List.mem_cons] at hy
          rcases hy with rfl | hy
          · exact hr3 (by omega)
          · exact q3 y hy
        · simp -implicitDefEqProofs only [getD_app, set_app, lt_app, ltn_app, zero_le_cast, Int.toNat_natCast, hr1, fa h, hn, go_sem, Nat.reduceAdd, Nat.reduceSub, Nat.reduceMul, Nat.reduceMod, Nat.reduceLT, Nat.reduceLeDiff, Nat.reduceEqDiff, Nat.reduceBEq, Nat.reduceDiv, Int.reduceLT, Int.reduceLE, Int.reduceToNat, Int.reduceNeg, Int.reduceEq, ↓reduceIte, reduceCtorEq, ↓reduceDIte]
          exact q4
      · right
        simp -implicitDefEqProofs only [getD_app, set_app, lt_app, ltn_app, zero_le_cast, Int.toNat_natCast, hr1, fa h, hn, go_sem, Nat.reduceAdd, Nat.reduceSub, Nat.reduceMul, Nat.reduceMod, Nat.reduceLT, Nat.reduceLeDiff, Nat.reduceEqDiff, Nat.reduceBEq, Nat.reduceDiv, Int.reduceLT, Int.reduceLE, Int.reduceToNat, Int.reduceNeg, Int.reduceEq, ↓reduceIte, reduceCtorEq, ↓reduceDIte]
        exact q
theorem sz_Int64SS (a : List (Ty.Den (.slice (.int .i64)))) (ha : Bd wide (.slice (.slice (.int .i64))) a) (l : Int) (h0 : 0 ≤ l) (h1 : l ≤ 1048576) : ∃ r, callOf pr 23 [.d (.slice (.slice (.int .i64))) a, I l] [] = some (I r, []) ∧ r ≤ l ∧ (0 ≤ r → Bd small (.slice (.slice (.int .i64))) a) := by
  have hl : a.length ≤ wide := ha.1
  simp only [wide] at hl
  have hw : IntKind.i64.wrap (l - (a.length : Int)) = l - a.length := by rw [wrap_i] <;> omega
  by_cases h : l - (a.length : Int) < 0
  · refine ⟨-1, ?_, by omega, fun h => absurd h (by omega)⟩
    rw [call_eq pr 23 _ _ Try.f23 fn_23 _ rfl _ ann_23 rfl]
    simp -implicitDefEqProofs only [hw, tr h, go_sem, Nat.reduceAdd, Nat.reduceSub, Nat.reduceMul, Nat.reduceMod, Nat.reduceLT, Nat.reduceLeDiff, Nat.reduceEqDiff, Nat.reduceBEq, Nat.reduceDiv, Int.reduceLT, Int.reduceLE, Int.reduceToNat, Int.reduceNeg, Int.reduceEq, ↓reduceIte, reduceCtorEq, ↓reduceDIte]
  · have hs := szl_Int64SS a [] (l - a.length) (by omega) (by omega) (by simp only [List.length_nil, wide]; omega) ha.2
    simp only [List.nil_append, List.length_nil] at hs
    rcases hs with ⟨r, r1, r2, r3, r4⟩ | r
    · have r4 : loopOf pr 23 0 ⟨[(0, .d (.slice (.slice (.int .i64))) a), (1, I (l - a.length)), (5, I 0)], []⟩ = _ := r4
      refine ⟨r, ?_, by omega, fun _ => ⟨?_, r3⟩⟩
      · rw [call_eq pr 23 _ _ Try.f23 fn_23 _ rfl _ ann_23 rfl]
        simp -implicitDefEqProofs only [hw, fa h, r4, go_sem, Nat.reduceAdd, Nat.reduceSub, Nat.reduceMul, Nat.reduceMod, Nat.reduceLT, Nat.reduceLeDiff, Nat.reduceEqDiff, Nat.reduceBEq, Nat.reduceDiv, Int.reduceLT, Int.reduceLE, Int.reduceToNat, Int.reduceNeg, Int.reduceEq, ↓reduceIte, reduceCtorEq, ↓reduceDIte]
      · show a.length ≤ small
        simp only [small]; omega
    · have r : loopOf pr 23 0 ⟨[(0, .d (.slice (.slice (.int .i64))) a), (1, I (l - a.length)), (5, I 0)], []⟩ = _ := r
      refine ⟨-1, ?_, by omega, fun h => absurd h (by omega)⟩
      rw [call_eq pr 23 _ _ Try.f23 fn_23 _ rfl _ ann_23 rfl]
      simp -implicitDefEqProofs only [hw, fa h, r, go_sem, Nat.reduceAdd, Nat.reduceSub, Nat.reduceMul, Nat.reduceMod, Nat.reduceLT, Nat.reduceLeDiff, Nat.reduceEqDiff, Nat.reduceBEq, Nat.reduceDiv, Int.reduceLT, Int.reduceLE, Int.reduceToNat, Int.reduceNeg, Int.reduceEq, ↓reduceIte, reduceCtorEq, ↓reduceDIte]

theorem sz_Policy (x : Ty.Den (.agg (.cons (.slice (.slice (.int .i64))) (.cons (.slice (.int .i64)) .nil)))) (ha : Bd wide (.agg (.cons (.slice (.slice (.int .i64))) (.cons (.slice (.int .i64)) .nil))) x) (l : Int) (h0 : 0 ≤ l) (h1 : l ≤ 1048576) : ∃ r, callOf pr 6 [.agg [.d (.slice (.slice (.int .i64))) x.1, .d (.slice (.int .i64)) x.2.1], I l] [] = some (I r, []) ∧ r ≤ l ∧ (0 ≤ r → Bd small (.agg (.cons (.slice (.slice (.int .i64))) (.cons (.slice (.int .i64)) .nil))) x) := by
  obtain ⟨r0, r0a, r0b, r0c⟩ := sz_Int64SS x.1 ha.1 l (by omega) (by omega)
  by_cases g0 : r0 < 0
  · refine ⟨-1, ?_, by omega, fun h => absurd h (by omega)⟩
    rw [call_eq pr 6 _ _ Try.f6 fn_6 _ rfl _ ann_6 rfl]
    simp -implicitDefEqProofs only [r0a, tr g0, go_sem, Nat.reduceAdd, Nat.reduceSub, Nat.reduceMul, Nat.reduceMod, Nat.reduceLT, Nat.reduceLeDiff, Nat.reduceEqDiff, Nat.reduceBEq, Nat.reduceDiv, Int.reduceLT, Int.reduceLE, Int.reduceToNat, Int.reduceNeg, Int.reduceEq, ↓reduceIte, reduceCtorEq, ↓reduceDIte]
  · skip
    obtain ⟨r1, r1a, r1b, r1c⟩ := sz_Int64S x.2.1 ha.2.1 r0 (by omega) (by omega)
    by_cases g1 : r1 < 0
    · refine ⟨-1, ?_, by omega, fun h => absurd h (by omega)⟩
      rw [call_eq pr 6 _ _ Try.f6 fn_6 _ rfl _ ann_6 rfl]
      simp -implicitDefEqProofs only [r0a, fa g0, r1a, tr g1, go_sem, Nat.reduceAdd, Nat.reduceSub, Nat.reduceMul, Nat.reduceMod, Nat.reduceLT, Nat.reduceLeDiff, Nat.reduceEqDiff, Nat.reduceBEq, Nat.reduceDiv, Int.reduceLT, Int.reduceLE, Int.reduceToNat, Int.reduceNeg, Int.reduceEq, ↓reduceIte, reduceCtorEq, ↓reduceDIte]
    · refine ⟨r1, ?_, by omega, fun _ => ⟨r0c (by omega), r1c (by omega), trivial⟩⟩
      rw [call_eq pr 6 _ _ Try.f6 fn_6 _ rfl _ ann_6 rfl]
      simp -implicitDefEqProofs only [r0a, fa g0, r1a, fa g1, go_sem, Nat.reduceAdd, Nat.reduceSub, Nat.reduceMul, Nat.reduceMod, Nat.reduceLT, Nat.reduceLeDiff, Nat.reduceEqDiff, Nat.reduceBEq, Nat.reduceDiv, Int.reduceLT, Int.reduceLE, Int.reduceToNat, Int.reduceNeg, Int.reduceEq, ↓reduceIte, reduceCtorEq, ↓reduceDIte]

theorem tol_Int64S (xs : List (Ty.Den (.int .i64))) : ∀ (done : List (Ty.Den (.int .i64))), done.length + xs.length ≤ wide →
    loopOf pr 9 0 ⟨[(0, .d (.slice (.int .i64)) (done ++ xs)), (3, .os (.t 448)), (4, I done.length)], [(448, .arr true false (.int .i64) (done ++ List.replicate xs.length (0 : Int)))]⟩ = some (.exit 0, ⟨[(0, .d (.slice (.int .i64)) (done ++ xs)), (3, .os (.t 448)), (4, I ((done.length + xs.length : Nat) : Int))], [(448, .arr true false (.int .i64) (done ++ xs))]⟩) := by
  induction xs with
  | nil =>
    intro done hb
    rw [loop_eq pr 9 0 _ Try.f9 fn_9 _ rfl _ ann_9 _ rfl]
    simp -implicitDefEqProofs only [Int.lt_irrefl, List.append_nil, Nat.add_zero, go_sem, Nat.reduceAdd, Nat.reduceSub, Nat.reduceMul, Nat.reduceMod, Nat.reduceLT, Nat.reduceLeDiff, Nat.reduceEqDiff, Nat.reduceBEq, Nat.reduceDiv, Int.reduceLT, Int.reduceLE, Int.reduceToNat, Int.reduceNeg, Int.reduceEq, ↓reduceIte, reduceCtorEq, ↓reduceDIte]
  | cons x xs ih =>
    intro done hb
    simp only [List.length_cons, wide] at hb
    have hn : IntKind.i64.wrap ((done.length : Int) + 1) = ((done.length + 1 : Nat) : Int) := by rw [wrap_i] <;> omega
    have ih := ih (done ++ [x]) (by simp only [List.length_append, List.length_cons, List.length_nil, wide]; omega)
    have e1 : (done ++ [x]).length = done.length + 1 := by simp
    have e2 : done.length + 1 + xs.length = done.length + (x :: xs).length := by simp; omega
    have e3 : List.replicate (x :: xs).length (0 : Int) = (0 : Int) :: List.replicate xs.length (0 : Int) := rfl
    rw [app_one, app_one, e1, e2] at ih
    rw [e3]
    rw [loop_eq pr 9 0 _ Try.f9 fn_9 _ rfl _ ann_9 _ rfl]
    simp -implicitDefEqProofs only [getD_app, set_app, lt_app, ltn_app, zero_le_cast, Int.toNat_natCast, hn, go_sem, Nat.reduceAdd, Nat.reduceSub, Nat.reduceMul, Nat.reduceMod, Nat.reduceLT, Nat.reduceLeDiff, Nat.reduceEqDiff, Nat.reduceBEq, Nat.reduceDiv, Int.reduceLT, Int.reduceLE, Int.reduceToNat, Int.reduceNeg, Int.reduceEq, ↓reduceIte, reduceCtorEq, ↓reduceDIte]
    exact ih
theorem to_Int64S (xs : List (Ty.Den (.int .i64))) (hb : xs.length ≤ 1000000000000) : callOf pr 9 [.d (.slice (.int .i64)) xs] [] = some (.os (.t 448), [(448, .arr true false (.int .i64) xs)]) := by
  have h := tol_Int64S xs [] (by simp only [List.length_nil, wide]; omega)
  simp only [List.nil_append, List.length_nil] at h
  have h : loopOf pr 9 0 ⟨[(0, .d (.slice (.int .i64)) xs), (3, .os (.t 448)), (4, I 0)], [(448, .arr true false (.int .i64) (List.replicate xs.length (0 : Int)))]⟩ = _ := h
  have h1 : (((8 : Nat) : Int) * (xs.length : Int) ≤ 140737488355328) = True := by simp; omega
  have h2 : ((xs.length : Int) ≤ 9223372036854775807) = True := by simp; omega
  rw [call_eq pr 9 _ _ Try.f9 fn_9 _ rfl _ ann_9 rfl]
  simp -implicitDefEqProofs only [zero_le_cast, Int.le_refl, h1, h2, Int.toNat_natCast, h, go_sem, Nat.reduceAdd, Nat.reduceSub, Nat.reduceMul, Nat.reduceMod, Nat.reduceLT, Nat.reduceLeDiff, Nat.reduceEqDiff, Nat.reduceBEq, Nat.reduceDiv, Int.reduceLT, Int.reduceLE, Int.reduceToNat, Int.reduceNeg, Int.reduceEq, ↓reduceIte, reduceCtorEq, ↓reduceDIte]

theorem tol_Int64SS (xs : List (Ty.Den (.slice (.int .i64)))) : ∀ (done : List (Ty.Den (.slice (.int .i64)))), done.length + xs.length ≤ wide → (∀ x ∈ xs, x.length ≤ 1000000000000) →
    loopOf pr 30 0 ⟨[(0, .d (.slice (.slice (.int .i64))) (done ++ xs)), (3, .os (.t 448)), (4, I done.length)], [(448, .arr true true (.slice (.int .i64)) (done ++ List.replicate xs.length ([] : List (Ty.Den (.int .i64)))))]⟩ = some (.exit 0, ⟨[(0, .d (.slice (.slice (.int .i64))) (done ++ xs)), (3, .os (.t 448)), (4, I ((done.length + xs.length : Nat) : Int))], [(448, .arr true true (.slice (.int .i64)) (done ++ xs))]⟩) := by
  induction xs with
  | nil =>
    intro done hb hx
    rw [loop_eq pr 30 0 _ Try.f30 fn_30 _ rfl _ ann_30 _ rfl]
    simp -implicitDefEqProofs only [Int.lt_irrefl, List.append_nil, Nat.add_zero, go_sem, Nat.reduceAdd, Nat.reduceSub, Nat.reduceMul, Nat.reduceMod, Nat.reduceLT, Nat.reduceLeDiff, Nat.reduceEqDiff, Nat.reduceBEq, Nat.reduceDiv, Int.reduceLT, Int.reduceLE, Int.reduceToNat, Int.reduceNeg, Int.reduceEq, ↓reduceIte, reduceCtorEq, ↓reduceDIte]
  | cons x xs ih =>
    intro done hb hx
    simp only [List.length_cons, wide] at hb
    have hn : IntKind.i64.wrap ((done.length : Int) + 1) = ((done.length + 1 : Nat) : Int) := by rw [wrap_i] <;> omega
    have ih := ih (done ++ [x]) (by simp only [List.length_append, List.length_cons, List.length_nil, wide]; omega) (fun y hy => hx y (by simp [hy]))
    have e1 : (done ++ [x]).length = done.length + 1 := by simp
    have e2 : done.length + 1 + xs.length = done.length + (x :: xs).length := by simp; omega
    have e3 : List.replicate (x :: xs).length ([] : List (Ty.Den (.int .i64))) = ([] : List (Ty.Den (.int .i64))) :: List.replicate xs.length ([] : List (Ty.Den (.int .i64))) := rfl
    rw [app_one, app_one, e1, e2] at ih
    rw [e3]
    rw [loop_eq pr 30 0 _ Try.f30 fn_30 _ rfl _ ann_30 _ rfl]
    simp -implicitDefEqProofs only [getD_app, set_app, lt_app, ltn_app, zero_le_cast, Int.toNat_natCast, hn, to_Int64S x (hx x (by simp)), go_sem, Nat.reduceAdd, Nat.reduceSub, Nat.reduceMul, Nat.reduceMod, Nat.reduceLT, Nat.reduceLeDiff, Nat.reduceEqDiff, Nat.reduceBEq, Nat.reduceDiv, Int.reduceLT, Int.reduceLE, Int.reduceToNat, Int.reduceNeg, Int.reduceEq, ↓reduceIte, reduceCtorEq, ↓reduceDIte]
    exact ih
theorem to_Int64SS (xs : List (Ty.Den (.slice (.int .i64)))) (hb : xs.length ≤ 1000000000000) (hx : ∀ x ∈ xs, x.length ≤ 1000000000000) : callOf pr 30 [.d (.slice (.slice (.int .i64))) xs] [] = some (.os (.t 448), [(448, .arr true true (.slice (.int .i64)) xs)]) := by
  have h := tol_Int64SS xs [] (by simp only [List.length_nil, wide]; omega) hx
  simp only [List.nil_append, List.length_nil] at h
  have h : loopOf pr 30 0 ⟨[(0, .d (.slice (.slice (.int .i64))) xs), (3, .os (.t 448)), (4, I 0)], [(448, .arr true true (.slice (.int .i64)) (List.replicate xs.length ([] : List (Ty.Den (.int .i64)))))]⟩ = _ := h
  have h1 : (((24 : Nat) : Int) * (xs.length : Int) ≤ 140737488355328) = True := by simp; omega
  have h2 : ((xs.length : Int) ≤ 9223372036854775807) = True := by simp; omega
  rw [call_eq pr 30 _ _ Try.f30 fn_30 _ rfl _ ann_30 rfl]
  simp -implicitDefEqProofs only [zero_le_cast, Int.le_refl, h1, h2, Int.toNat_natCast, h, go_sem, Nat.reduceAdd, Nat.reduceSub, Nat.reduceMul, Nat.reduceMod, Nat.reduceLT, Nat.reduceLeDiff, Nat.reduceEqDiff, Nat.reduceBEq, Nat.reduceDiv, Int.reduceLT, Int.reduceLE, Int.reduceToNat, Int.reduceNeg, Int.reduceEq, ↓reduceIte, reduceCtorEq, ↓reduceDIte]

theorem to_Policy (x : Ty.Den (.agg (.cons (.slice (.slice (.int .i64))) (.cons (.slice (.int .i64)) .nil)))) (ha : Bd small (.agg (.cons (.slice (.slice (.int .i64))) (.cons (.slice (.int .i64)) .nil))) x) : callOf pr 8 [.agg [.d (.slice (.slice (.int .i64))) x.1, .d (.slice (.int .i64)) x.2.1]] [] = some (.agg [.os (.t 384), .os (.t 640)], [(384, .arr true true (.slice (.int .i64)) x.1), (640, .arr true false (.int .i64) x.2.1)]) := by
  have h0 := to_Int64SS x.1 (Nat.le_trans ha.1.1 (by decide)) (fun y hy => Nat.le_trans (ha.1.2 y hy).1 (by decide))
  have h1 := to_Int64S x.2.1 (Nat.le_trans ha.2.1.1 (by decide))
  rw [call_eq pr 8 _ _ Try.f8 fn_8 _ rfl _ ann_8 rfl]
  simp -implicitDefEqProofs only [h0, h1, go_sem, Nat.reduceAdd, Nat.reduceSub, Nat.reduceMul, Nat.reduceMod, Nat.reduceLT, Nat.reduceLeDiff, Nat.reduceEqDiff, Nat.reduceBEq, Nat.reduceDiv, Int.reduceLT, Int.reduceLE, Int.reduceToNat, Int.reduceNeg, Int.reduceEq, ↓reduceIte, reduceCtorEq, ↓reduceDIte]

theorem eql_Int64S (xs : List (Ty.Den (.int .i64))) : ∀ (done : List (Ty.Den (.int .i64))), done.length + xs.length ≤ wide → (∀ x ∈ xs, Bd wide (.int .i64) x) →
    loopOf pr 12 0 ⟨[(0, .d (.slice (.int .i64)) (done ++ xs)), (1, .d (.slice (.int .i64)) (done ++ xs)), (5, I done.length)], []⟩ = some (.exit 0, ⟨[(0, .d (.slice (.int .i64)) (done ++ xs)), (1, .d (.slice (.int .i64)) (done ++ xs)), (5, I ((done.length + xs.length : Nat) : Int))], []⟩) := by
  induction xs with
  | nil =>
    intro done hb hx
    rw [loop_eq pr 12 0 _ Try.f12 fn_12 _ rfl _ ann_12 _ rfl]
    simp -implicitDefEqProofs only [Int.lt_irrefl, List.append_nil, Nat.add_zero, go_sem, Nat.reduceAdd, Nat.reduceSub, Nat.reduceMul, Nat.reduceMod, Nat.reduceLT, Nat.reduceLeDiff, Nat.reduceEqDiff, Nat.reduceBEq, Nat.reduceDiv, Int.reduceLT, Int.reduceLE, Int.reduceToNat, Int.reduceNeg, Int.reduceEq, ↓reduceIte, reduceCtorEq, ↓reduceDIte]
  | cons x xs ih =>
    intro done hb hx
    simp only [List.length_cons, wide] at hb
    have hn : IntKind.i64.wrap ((done.length : Int) + 1) = ((done.length + 1 : Nat) : Int) := by rw [wrap_i] <;> omega
    have ih := ih (done ++ [x]) (by simp only [List.length_append, List.length_cons, List.length_nil, wide]; omega) (fun y hy => hx y (by simp [hy]))
    have e1 : (done ++ [x]).length = done.length + 1 := by simp
    have e2 : done.length + 1 + xs.length = done.length + (x :: xs).length := by simp; omega
    rw [app_one, e1, e2] at ih
    rw [loop_eq pr 12 0 _ Try.f12 fn_12 _ rfl _ ann_12 _ rfl]
    simp -implicitDefEqProofs only [getD_app, set_app, lt_app, ltn_app, zero_le_cast, Int.toNat_natCast, hn, BEq.rfl, beq_self_eq_true, decide_true, go_sem, Nat.reduceAdd, Nat.reduceSub, Nat.reduceMul, Nat.reduceMod, Nat.reduceLT, Nat.reduceLeDiff, Nat.reduceEqDiff, Nat.reduceBEq, Nat.reduceDiv, Int.reduceLT, Int.reduceLE, Int.reduceToNat, Int.reduceNeg, Int.reduceEq, ↓reduceIte, reduceCtorEq, ↓reduceDIte]
    exact ih
theorem eq_Int64S (xs : List (Ty.Den (.int .i64))) (ha : Bd wide (.slice (.int .i64)) xs) : callOf pr 12 [.d (.slice (.int .i64)) xs, .d (.slice (.int .i64)) xs] [] = some (B true, []) := by
  have h := eql_Int64S xs [] (by rw [List.length_nil, Nat.zero_add]; exact ha.1) ha.2
  simp only [List.nil_append, List.length_nil] at h
  have h : loopOf pr 12 0 ⟨[(0, .d (.slice (.int .i64)) xs), (1, .d (.slice (.int .i64)) xs), (5, I 0)], []⟩ = _ := h
  rw [call_eq pr 12 _ _ Try.f12 fn_12 _ rfl _ ann_12 rfl]
  simp -implicitDefEqProofs only [h, go_sem, Nat.reduceAdd, Nat.reduceSub, Nat.reduceMul, Nat.reduceMod, Nat.reduceLT, Nat.reduceLeDiff, Nat.reduceEqDiff, Nat.reduceBEq, Nat.reduceDiv, Int.reduceLT, Int.reduceLE, Int.reduceToNat, Int.reduceNeg, Int.reduceEq, ↓reduceIte, reduceCtorEq, ↓reduceDIte]
theorem eql_Int64SS (xs : List (Ty.Den (.slice (.int .i64)))) : ∀ (done : List (Ty.Den (.slice (.int .i64)))), done.length + xs.length ≤ wide → (∀ x ∈ xs, Bd wide (.slice (.int .i64)) x) →
    loopOf pr 37 0 ⟨[(0, .d (.slice (.slice (.int .i64))) (done ++ xs)), (1, .d (.slice (.slice (.int .i64))) (done ++ xs)), (5, I done.length)], []⟩ = some (.exit 0, ⟨[(0, .d (.slice (.slice (.int .i64))) (done ++ xs)), (1, .d (.slice (.slice (.int .i64))) (done ++ xs)), (5, I ((done.length + xs.length : Nat) : Int))], []⟩) := by
  induction xs with
  | nil =>
    intro done hb hx
    rw [loop_eq pr 37 0 _ Try.f37 fn_37 _ rfl _ ann_37 _ rfl]
    simp -implicitDefEqProofs only [Int.lt_irrefl, List.append_nil, Nat.add_zero, go_sem, Nat.reduceAdd, Nat.reduceSub, Nat.reduceMul, Nat.reduceMod, Nat.reduceLT, Nat.reduceLeDiff, Nat.reduceEqDiff, Nat.reduceBEq, Nat.reduceDiv, Int.reduceLT, Int.reduceLE, Int.reduceToNat, Int.reduceNeg, Int.reduceEq, ↓reduceIte, reduceCtorEq, ↓reduceDIte]
  | cons x xs ih =>
    intro done hb hx
    simp only [List.length_cons, wide] at hb
    have hn : IntKind.i64.wrap ((done.length : Int) + 1) = ((done.length + 1 : Nat) : Int) := by rw [wrap_i] <;> omega
    have ih := ih (done ++ [x]) (by simp only [List.length_append, List.length_cons, List.length_nil, wide]; omega) (fun y hy => hx y (by simp [hy]))
    have e1 : (done ++ [x]).length = done.length + 1 := by simp
    have e2 : done.length + 1 + xs.length = done.length + (x :: xs).length := by simp; omega
    rw [app_one, e1, e2] at ih
    rw [loop_eq pr 37 0 _ Try.f37 fn_37 _ rfl _ ann_37 _ rfl]
    simp -implicitDefEqProofs only [getD_app, set_app, lt_app, ltn_app, zero_le_cast, Int.toNat_natCast, hn, BEq.rfl, beq_self_eq_true, decide_true, eq_Int64S x (hx x (by simp)), go_sem, Nat.reduceAdd, Nat.reduceSub, Nat.reduceMul, Nat.reduceMod, Nat.reduceLT, Nat.reduceLeDiff, Nat.reduceEqDiff, Nat.reduceBEq, Nat.reduceDiv, Int.reduceLT, Int.reduceLE, Int.reduceToNat, Int.reduceNeg, Int.reduceEq, ↓reduceIte, reduceCtorEq, ↓reduceDIte]
    exact ih
theorem eq_Int64SS (xs : List (Ty.Den (.slice (.int .i64)))) (ha : Bd wide (.slice (.slice (.int .i64))) xs) : callOf pr 37 [.d (.slice (.slice (.int .i64))) xs, .d (.slice (.slice (.int .i64))) xs] [] = some (B true, []) := by
  have h := eql_Int64SS xs [] (by rw [List.length_nil, Nat.zero_add]; exact ha.1) ha.2
  simp only [List.nil_append, List.length_nil] at h
  have h : loopOf pr 37 0 ⟨[(0, .d (.slice (.slice (.int .i64))) xs), (1, .d (.slice (.slice (.int .i64))) xs), (5, I 0)], []⟩ = _ := h
  rw [call_eq pr 37 _ _ Try.f37 fn_37 _ rfl _ ann_37 rfl]
  simp -implicitDefEqProofs only [h, go_sem, Nat.reduceAdd, Nat.reduceSub, Nat.reduceMul, Nat.reduceMod, Nat.reduceLT, Nat.reduceLeDiff, Nat.reduceEqDiff, Nat.reduceBEq, Nat.reduceDiv, Int.reduceLT, Int.reduceLE, Int.reduceToNat, Int.reduceNeg, Int.reduceEq, ↓reduceIte, reduceCtorEq, ↓reduceDIte]
theorem eq_Policy (x : Ty.Den (.agg (.cons (.slice (.slice (.int .i64))) (.cons (.slice (.int .i64)) .nil)))) (ha : Bd wide (.agg (.cons (.slice (.slice (.int .i64))) (.cons (.slice (.int .i64)) .nil))) x) : callOf pr 11 [.agg [.d (.slice (.slice (.int .i64))) x.1, .d (.slice (.int .i64)) x.2.1], .agg [.d (.slice (.slice (.int .i64))) x.1, .d (.slice (.int .i64)) x.2.1]] [] = some (B true, []) := by
  rw [call_eq pr 11 _ _ Try.f11 fn_11 _ rfl _ ann_11 rfl]
  simp -implicitDefEqProofs only [BEq.rfl, beq_self_eq_true, decide_true, eq_Int64SS x.1 ha.1, eq_Int64S x.2.1 ha.2.1, go_sem, Nat.reduceAdd, Nat.reduceSub, Nat.reduceMul, Nat.reduceMod, Nat.reduceLT, Nat.reduceLeDiff, Nat.reduceEqDiff, Nat.reduceBEq, Nat.reduceDiv, Int.reduceLT, Int.reduceLE, Int.reduceToNat, Int.reduceNeg, Int.reduceEq, ↓reduceIte, reduceCtorEq, ↓reduceDIte]
end Go.Proofs.Yticbfkoialmojaa.PI
