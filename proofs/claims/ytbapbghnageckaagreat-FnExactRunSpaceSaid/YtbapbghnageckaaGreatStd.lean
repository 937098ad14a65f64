/- The functions of the rows: sizes, copies, comparisons, marks: printed by a program of the session. -/
import Derived.Test.YtbapbghnageckaaGreatGQStd
import Derived.Test.YtbapbghnageckaaGreatPIProg
namespace Go.Proofs.YtbapbghnageckaaGreat.PI
open Go Go.Q
set_option maxRecDepth 100000
set_option maxHeartbeats 4000000
set_option linter.unusedSimpArgs false
set_option linter.unusedVariables false
attribute [local go_sem] Nat.reduceAdd Nat.reduceSub Nat.reduceMul Nat.reduceMod Nat.reduceLT Nat.reduceLeDiff Nat.reduceEqDiff Nat.reduceBEq Nat.reduceDiv Int.reduceLT Int.reduceLE Int.reduceToNat Int.reduceNeg Int.reduceEq reduceCtorEq
attribute [local go_sem ↓] reduceIte reduceDIte

abbrev SyT0 : Ty := .agg (.cons (.int .i64) (.cons (.int .i64) .nil))
abbrev SyT1 : Ty := .agg (.cons (.int .i64) (.cons (.int .i64) (.cons .bool .nil)))
abbrev SyT2 : Ty := .agg (.cons (.int .i64) (.cons .bool (.cons .bool (.cons .bool .nil))))
theorem sz_Int64S (a : List (Ty.Den (.int .i64))) (ha : Bd wide (.slice (.int .i64)) a) (l : Int) (h0 : 0 ≤ l) (h1 : l ≤ 1048576) : ∃ r, callOf pr 39 [.d (.slice (.int .i64)) a, I l] [] = some (I r, []) ∧ r ≤ l ∧ (0 ≤ r → Bd small (.slice (.int .i64)) a) := by
  have hl : a.length ≤ wide := ha.1
  simp only [wide] at hl
  have hw : IntKind.i64.wrap (l - (a.length : Int)) = l - a.length := by rw [wrap_i] <;> omega
  by_cases h : l - (a.length : Int) < 0
  · refine ⟨-1, ?_, by omega, fun h => absurd h (by omega)⟩
    rw [call_eq pr 39 _ _ Tryz.f39 fn_39 _ rfl _ ann_39 rfl]
    simp -implicitDefEqProofs only [hw, tr h, go_sem]
  · refine ⟨l - a.length, ?_, by omega, fun _ => ⟨?_, fun y _ => Bd.scalar (.int .i64) rfl y⟩⟩
    · rw [call_eq pr 39 _ _ Tryz.f39 fn_39 _ rfl _ ann_39 rfl]
      simp -implicitDefEqProofs only [hw, fa h, go_sem]
    · show a.length ≤ small
      simp only [small]; omega

theorem sz_AccessS (a : List (Ty.Den SyT0)) (ha : Bd wide (.slice SyT0) a) (l : Int) (h0 : 0 ≤ l) (h1 : l ≤ 1048576) : ∃ r, callOf pr 15 [.d (.slice SyT0) a, I l] [] = some (I r, []) ∧ r ≤ l ∧ (0 ≤ r → Bd small (.slice SyT0) a) := by
  have hl : a.length ≤ wide := ha.1
  simp only [wide] at hl
  have hw : IntKind.i64.wrap (l - (a.length : Int)) = l - a.length := by rw [wrap_i] <;> omega
  by_cases h : l - (a.length : Int) < 0
  · refine ⟨-1, ?_, by omega, fun h => absurd h (by omega)⟩
    rw [call_eq pr 15 _ _ Tryz.f15 fn_15 _ rfl _ ann_15 rfl]
    simp -implicitDefEqProofs only [hw, tr h, go_sem]
  · refine ⟨l - a.length, ?_, by omega, fun _ => ⟨?_, fun y _ => Bd.scalar SyT0 rfl y⟩⟩
    · rw [call_eq pr 15 _ _ Tryz.f15 fn_15 _ rfl _ ann_15 rfl]
      simp -implicitDefEqProofs only [hw, fa h, go_sem]
    · show a.length ≤ small
      simp only [small]; omega

theorem sz_EntryS (a : List (Ty.Den SyT2)) (ha : Bd wide (.slice SyT2) a) (l : Int) (h0 : 0 ≤ l) (h1 : l ≤ 1048576) : ∃ r, callOf pr 87 [.d (.slice SyT2) a, I l] [] = some (I r, []) ∧ r ≤ l ∧ (0 ≤ r → Bd small (.slice SyT2) a) := by
  have hl : a.length ≤ wide := ha.1
  simp only [wide] at hl
  have hw : IntKind.i64.wrap (l - (a.length : Int)) = l - a.length := by rw [wrap_i] <;> omega
  by_cases h : l - (a.length : Int) < 0
  · refine ⟨-1, ?_, by omega, fun h => absurd h (by omega)⟩
    rw [call_eq pr 87 _ _ Tryz.f87 fn_87 _ rfl _ ann_87 rfl]
    simp -implicitDefEqProofs only [hw, tr h, go_sem]
  · refine ⟨l - a.length, ?_, by omega, fun _ => ⟨?_, fun y _ => Bd.scalar SyT2 rfl y⟩⟩
    · rw [call_eq pr 87 _ _ Tryz.f87 fn_87 _ rfl _ ann_87 rfl]
      simp -implicitDefEqProofs only [hw, fa h, go_sem]
    · show a.length ≤ small
      simp only [small]; omega

theorem szl_EntrySS (xs : List (Ty.Den (.slice SyT2))) : ∀ (done : List (Ty.Den (.slice SyT2))) (l : Int), 0 ≤ l → l ≤ 1048576 → done.length + xs.length ≤ wide → (∀ x ∈ xs, Bd wide (.slice SyT2) x) →
    (∃ r, 0 ≤ r ∧ r ≤ l ∧ (∀ x ∈ xs, Bd small (.slice SyT2) x) ∧ loopOf pr 40 0 ⟨[(0, .d (.slice (.slice SyT2)) (done ++ xs)), (1, I l), (5, I done.length)], []⟩ = some (.exit 0, ⟨[(0, .d (.slice (.slice SyT2)) (done ++ xs)), (1, I r), (5, I ((done.length + xs.length : Nat) : Int))], []⟩)) ∨ loopOf pr 40 0 ⟨[(0, .d (.slice (.slice SyT2)) (done ++ xs)), (1, I l), (5, I done.length)], []⟩ = some (.ret, ⟨[(4, I (-1))], []⟩) := by
  induction xs with
  | nil =>
    intro done l h0 h1 hb hx
    refine .inl ⟨l, h0, Int.le_refl _, by simp, ?_⟩
    rw [loop_eq pr 40 0 _ Tryz.f40 fn_40 _ rfl _ ann_40 _ rfl]
    simp -implicitDefEqProofs only [Int.lt_irrefl, List.append_nil, Nat.add_zero, go_sem]
  | cons x xs ih =>
    intro done l h0 h1 hb hx
    simp only [List.length_cons, wide] at hb
    obtain ⟨r, hr1, hr2, hr3⟩ := sz_EntryS x (hx x (by simp)) l h0 h1
    rw [loop_eq pr 40 0 _ Tryz.f40 fn_40 _ rfl _ ann_40 _ rfl]
    by_cases h : r < 0
    · right
      simp -implicitDefEqProofs only [getD_app, set_app, lt_app, ltn_app, zero_le_cast, Int.toNat_natCast, hr1, tr h, go_sem]
    · have hn : IntKind.i64.wrap ((done.length : Int) + 1) = ((done.length + 1 : Nat) : Int) := by rw [wrap_i] <;> omega
      have ih := ih (done ++ [x]) r (by omega) (by omega) (by simp only [List.length_append, List.length_cons, List.length_nil, wide]; omega) (fun y hy => hx y (by simp [hy]))
      have e1 : (done ++ [x]).length = done.length + 1 := by simp
      have e2 : done.length + 1 + xs.length = done.length + (x :: xs).length := by simp; omega
      rw [app_one, e1, e2] at ih
      rcases ih with ⟨q, q1, q2, q3, q4⟩ | q
      · refine .inl ⟨q, q1, by omega, ?_, ?_⟩
        · intro y hy
          rw [List.mem_cons] at hy
          rcases hy with rfl | hy
          · exact hr3 (by omega)
          · exact q3 y hy
        · simp -implicitDefEqProofs only [getD_app, set_app, lt_app, ltn_app, zero_le_cast, Int.toNat_natCast, hr1, fa h, hn, go_sem]
          exact q4
      · right
        simp -implicitDefEqProofs only [getD_app, set_app, lt_app, ltn_app, zero_le_cast, Int.toNat_natCast, hr1, fa h, hn, go_sem]
        exact q
theorem sz_EntrySS (a : List (Ty.Den (.slice SyT2))) (ha : Bd wide (.slice (.slice SyT2)) a) (l : Int) (h0 : 0 ≤ l) (h1 : l ≤ 1048576) : ∃ r, callOf pr 40 [.d (.slice (.slice SyT2)) a, I l] [] = some (I r, []) ∧ r ≤ l ∧ (0 ≤ r → Bd small (.slice (.slice SyT2)) a) := by
  have hl : a.length ≤ wide := ha.1
  simp only [wide] at hl
  have hw : IntKind.i64.wrap (l - (a.length : Int)) = l - a.length := by rw [wrap_i] <;> omega
  by_cases h : l - (a.length : Int) < 0
  · refine ⟨-1, ?_, by omega, fun h => absurd h (by omega)⟩
    rw [call_eq pr 40 _ _ Tryz.f40 fn_40 _ rfl _ ann_40 rfl]
    simp -implicitDefEqProofs only [hw, tr h, go_sem]
  · have hs := szl_EntrySS a [] (l - a.length) (by omega) (by omega) (by simp only [List.length_nil, wide]; omega) ha.2
    simp only [List.nil_append, List.length_nil] at hs
    rcases hs with ⟨r, r1, r2, r3, r4⟩ | r
    · have r4 : loopOf pr 40 0 ⟨[(0, .d (.slice (.slice SyT2)) a), (1, I (l - a.length)), (5, I 0)], []⟩ = _ := r4
      refine ⟨r, ?_, by omega, fun _ => ⟨?_, r3⟩⟩
      · rw [call_eq pr 40 _ _ Tryz.f40 fn_40 _ rfl _ ann_40 rfl]
        simp -implicitDefEqProofs only [hw, fa h, r4, go_sem]
      · show a.length ≤ small
        simp only [small]; omega
    · have r : loopOf pr 40 0 ⟨[(0, .d (.slice (.slice SyT2)) a), (1, I (l - a.length)), (5, I 0)], []⟩ = _ := r
      refine ⟨-1, ?_, by omega, fun h => absurd h (by omega)⟩
      rw [call_eq pr 40 _ _ Tryz.f40 fn_40 _ rfl _ ann_40 rfl]
      simp -implicitDefEqProofs only [hw, fa h, r, go_sem]

theorem sz_CachedS (a : List (Ty.Den SyT1)) (ha : Bd wide (.slice SyT1) a) (l : Int) (h0 : 0 ≤ l) (h1 : l ≤ 1048576) : ∃ r, callOf pr 41 [.d (.slice SyT1) a, I l] [] = some (I r, []) ∧ r ≤ l ∧ (0 ≤ r → Bd small (.slice SyT1) a) := by
  have hl : a.length ≤ wide := ha.1
  simp only [wide] at hl
  have hw : IntKind.i64.wrap (l - (a.length : Int)) = l - a.length := by rw [wrap_i] <;> omega
  by_cases h : l - (a.length : Int) < 0
  · refine ⟨-1, ?_, by omega, fun h => absurd h (by omega)⟩
    rw [call_eq pr 41 _ _ Tryz.f41 fn_41 _ rfl _ ann_41 rfl]
    simp -implicitDefEqProofs only [hw, tr h, go_sem]
  · refine ⟨l - a.length, ?_, by omega, fun _ => ⟨?_, fun y _ => Bd.scalar SyT1 rfl y⟩⟩
    · rw [call_eq pr 41 _ _ Tryz.f41 fn_41 _ rfl _ ann_41 rfl]
      simp -implicitDefEqProofs only [hw, fa h, go_sem]
    · show a.length ≤ small
      simp only [small]; omega

theorem sz_Space (x : Ty.Den (.agg (.cons (.slice (.int .i64)) (.cons (.slice (.slice SyT2)) (.cons (.slice SyT1) .nil))))) (ha : Bd wide (.agg (.cons (.slice (.int .i64)) (.cons (.slice (.slice SyT2)) (.cons (.slice SyT1) .nil)))) x) (l : Int) (h0 : 0 ≤ l) (h1 : l ≤ 1048576) : ∃ r, callOf pr 7 [.agg [.d (.slice (.int .i64)) x.1, .d (.slice (.slice SyT2)) x.2.1, .d (.slice SyT1) x.2.2.1], I l] [] = some (I r, []) ∧ r ≤ l ∧ (0 ≤ r → Bd small (.agg (.cons (.slice (.int .i64)) (.cons (.slice (.slice SyT2)) (.cons (.slice SyT1) .nil)))) x) := by
  obtain ⟨r0, r0a, r0b, r0c⟩ := sz_Int64S x.1 ha.1 l (by omega) (by omega)
  by_cases g0 : r0 < 0
  · refine ⟨-1, ?_, by omega, fun h => absurd h (by omega)⟩
    rw [call_eq pr 7 _ _ Tryz.f7 fn_7 _ rfl _ ann_7 rfl]
    simp -implicitDefEqProofs only [r0a, tr g0, go_sem]
  · skip
    obtain ⟨r1, r1a, r1b, r1c⟩ := sz_EntrySS x.2.1 ha.2.1 r0 (by omega) (by omega)
    by_cases g1 : r1 < 0
    · refine ⟨-1, ?_, by omega, fun h => absurd h (by omega)⟩
      rw [call_eq pr 7 _ _ Tryz.f7 fn_7 _ rfl _ ann_7 rfl]
      simp -implicitDefEqProofs only [r0a, fa g0, r1a, tr g1, go_sem]
    · skip
      obtain ⟨r2, r2a, r2b, r2c⟩ := sz_CachedS x.2.2.1 ha.2.2.1 r1 (by omega) (by omega)
      by_cases g2 : r2 < 0
      · refine ⟨-1, ?_, by omega, fun h => absurd h (by omega)⟩
        rw [call_eq pr 7 _ _ Tryz.f7 fn_7 _ rfl _ ann_7 rfl]
        simp -implicitDefEqProofs only [r0a, fa g0, r1a, fa g1, r2a, tr g2, go_sem]
      · refine ⟨r2, ?_, by omega, fun _ => ⟨r0c (by omega), r1c (by omega), r2c (by omega), trivial⟩⟩
        rw [call_eq pr 7 _ _ Tryz.f7 fn_7 _ rfl _ ann_7 rfl]
        simp -implicitDefEqProofs only [r0a, fa g0, r1a, fa g1, r2a, fa g2, go_sem]

theorem tol_Int64S (xs : List (Ty.Den (.int .i64))) : ∀ (done : List (Ty.Den (.int .i64))), done.length + xs.length ≤ wide →
    loopOf pr 46 0 ⟨[(0, .d (.slice (.int .i64)) (done ++ xs)), (3, .os (.t 448)), (4, I done.length)], [(448, .arr true false (.int .i64) (done ++ List.replicate xs.length (0 : Int)))]⟩ = some (.exit 0, ⟨[(0, .d (.slice (.int .i64)) (done ++ xs)), (3, .os (.t 448)), (4, I ((done.length + xs.length : Nat) : Int))], [(448, .arr true false (.int .i64) (done ++ xs))]⟩) := by
  induction xs with
  | nil =>
    intro done hb
    rw [loop_eq pr 46 0 _ Tryz.f46 fn_46 _ rfl _ ann_46 _ rfl]
    simp -implicitDefEqProofs only [Int.lt_irrefl, List.append_nil, Nat.add_zero, go_sem]
  | cons x xs ih =>
    intro done hb
    simp only [List.length_cons, wide] at hb
    have hn : IntKind.i64.wrap ((done.length : Int) + 1) = ((done.length + 1 : Nat) : Int) := by rw [wrap_i] <;> omega
    have ih := ih (done ++ [x]) (by simp only [List.length_append, List.length_cons, List.length_nil, wide]; omega)
    have e1 : (done ++ [x]).length = done.length + 1 := by simp
    have e2 : done.length + 1 + xs.length = done.length + (x :: xs).length := by simp; omega
    have e3 : List.replicate (x :: xs).length (0 : Int) = (0 : Int) :: List.replicate xs.length (0 : Int) := rfl
    rw [app_one, app_one, e1, e2] at ih
    rw [e3]
    rw [loop_eq pr 46 0 _ Tryz.f46 fn_46 _ rfl _ ann_46 _ rfl]
    simp -implicitDefEqProofs only [getD_app, set_app, lt_app, ltn_app, zero_le_cast, Int.toNat_natCast, hn, go_sem]
    exact ih
theorem to_Int64S (xs : List (Ty.Den (.int .i64))) (hb : xs.length ≤ 1000000000000) : callOf pr 46 [.d (.slice (.int .i64)) xs] [] = some (.os (.t 448), [(448, .arr true false (.int .i64) xs)]) := by
  have h := tol_Int64S xs [] (by simp only [List.length_nil, wide]; omega)
  simp only [List.nil_append, List.length_nil] at h
  have h : loopOf pr 46 0 ⟨[(0, .d (.slice (.int .i64)) xs), (3, .os (.t 448)), (4, I 0)], [(448, .arr true false (.int .i64) (List.replicate xs.length (0 : Int)))]⟩ = _ := h
  have h1 : (((8 : Nat) : Int) * (xs.length : Int) ≤ 140737488355328) = True := by simp; omega
  have h2 : ((xs.length : Int) ≤ 9223372036854775807) = True := by simp; omega
  rw [call_eq pr 46 _ _ Tryz.f46 fn_46 _ rfl _ ann_46 rfl]
  simp -implicitDefEqProofs only [zero_le_cast, Int.le_refl, h1, h2, Int.toNat_natCast, h, go_sem]

theorem to_Access (x : Ty.Den SyT0) : callOf pr 10 [.agg [I x.1, I x.2.1]] [] = some (.agg [I x.1, I x.2.1], []) := by
  rw [call_eq pr 10 _ _ Tryz.f10 fn_10 _ rfl _ ann_10 rfl]
  simp -implicitDefEqProofs only [go_sem]

theorem tol_AccessS (xs : List (Ty.Den SyT0)) : ∀ (done : List (Ty.Den SyT0)), done.length + xs.length ≤ wide →
    loopOf pr 17 0 ⟨[(0, .d (.slice SyT0) (done ++ xs)), (3, .os (.t 448)), (4, I done.length)], [(448, .arr true false SyT0 (done ++ List.replicate xs.length ((0 : Int), (0 : Int), ())))]⟩ = some (.exit 0, ⟨[(0, .d (.slice SyT0) (done ++ xs)), (3, .os (.t 448)), (4, I ((done.length + xs.length : Nat) : Int))], [(448, .arr true false SyT0 (done ++ xs))]⟩) := by
  induction xs with
  | nil =>
    intro done hb
    rw [loop_eq pr 17 0 _ Tryz.f17 fn_17 _ rfl _ ann_17 _ rfl]
    simp -implicitDefEqProofs only [Int.lt_irrefl, List.append_nil, Nat.add_zero, go_sem]
  | cons x xs ih =>
    intro done hb
    simp only [List.length_cons, wide] at hb
    have hn : IntKind.i64.wrap ((done.length : Int) + 1) = ((done.length + 1 : Nat) : Int) := by rw [wrap_i] <;> omega
    have ih := ih (done ++ [x]) (by simp only [List.length_append, List.length_cons, List.length_nil, wide]; omega)
    have e1 : (done ++ [x]).length = done.length + 1 := by simp
    have e2 : done.length + 1 + xs.length = done.length + (x :: xs).length := by simp; omega
    have e3 : List.replicate (x :: xs).length ((0 : Int), (0 : Int), ()) = ((0 : Int), (0 : Int), ()) :: List.replicate xs.length ((0 : Int), (0 : Int), ()) := rfl
    rw [app_one, app_one, e1, e2] at ih
    rw [e3]
    rw [loop_eq pr 17 0 _ Tryz.f17 fn_17 _ rfl _ ann_17 _ rfl]
    obtain ⟨a0, a1, ⟨⟩⟩ := x
    simp -implicitDefEqProofs only [getD_app, set_app, lt_app, ltn_app, zero_le_cast, Int.toNat_natCast, hn, to_Access ((a0, a1, ())), go_sem]
    exact ih
theorem to_AccessS (xs : List (Ty.Den SyT0)) (hb : xs.length ≤ 1000000000000) : callOf pr 17 [.d (.slice SyT0) xs] [] = some (.os (.t 448), [(448, .arr true false SyT0 xs)]) := by
  have h := tol_AccessS xs [] (by simp only [List.length_nil, wide]; omega)
  simp only [List.nil_append, List.length_nil] at h
  have h : loopOf pr 17 0 ⟨[(0, .d (.slice SyT0) xs), (3, .os (.t 448)), (4, I 0)], [(448, .arr true false SyT0 (List.replicate xs.length ((0 : Int), (0 : Int), ())))]⟩ = _ := h
  have h1 : (((16 : Nat) : Int) * (xs.length : Int) ≤ 140737488355328) = True := by simp; omega
  have h2 : ((xs.length : Int) ≤ 9223372036854775807) = True := by simp; omega
  rw [call_eq pr 17 _ _ Tryz.f17 fn_17 _ rfl _ ann_17 rfl]
  simp -implicitDefEqProofs only [zero_le_cast, Int.le_refl, h1, h2, Int.toNat_natCast, h, go_sem]

theorem to_Entry (x : Ty.Den SyT2) : callOf pr 128 [.agg [I x.1, B x.2.1, B x.2.2.1, B x.2.2.2.1]] [] = some (.agg [I x.1, B x.2.1, B x.2.2.1, B x.2.2.2.1], []) := by
  rw [call_eq pr 128 _ _ Tryz.f128 fn_128 _ rfl _ ann_128 rfl]
  simp -implicitDefEqProofs only [go_sem]

theorem tol_EntryS (xs : List (Ty.Den SyT2)) : ∀ (done : List (Ty.Den SyT2)), done.length + xs.length ≤ wide →
    loopOf pr 95 0 ⟨[(0, .d (.slice SyT2) (done ++ xs)), (3, .os (.t 448)), (4, I done.length)], [(448, .arr true false SyT2 (done ++ List.replicate xs.length ((0 : Int), false, false, false, ())))]⟩ = some (.exit 0, ⟨[(0, .d (.slice SyT2) (done ++ xs)), (3, .os (.t 448)), (4, I ((done.length + xs.length : Nat) : Int))], [(448, .arr true false SyT2 (done ++ xs))]⟩) := by
  induction xs with
  | nil =>
    intro done hb
    rw [loop_eq pr 95 0 _ Tryz.f95 fn_95 _ rfl _ ann_95 _ rfl]
    simp -implicitDefEqProofs only [Int.lt_irrefl, List.append_nil, Nat.add_zero, go_sem]
  | cons x xs ih =>
    intro done hb
    simp only [List.length_cons, wide] at hb
    have hn : IntKind.i64.wrap ((done.length : Int) + 1) = ((done.length + 1 : Nat) : Int) := by rw [wrap_i] <;> omega
    have ih := ih (done ++ [x]) (by simp only [List.length_append, List.length_cons, List.length_nil, wide]; omega)
    have e1 : (done ++ [x]).length = done.length + 1 := by simp
    have e2 : done.length + 1 + xs.length = done.length + (x :: xs).length := by simp; omega
    have e3 : List.replicate (x :: xs).length ((0 : Int), false, false, false, ()) = ((0 : Int), false, false, false, ()) :: List.replicate xs.length ((0 : Int), false, false, false, ()) := rfl
    rw [app_one, app_one, e1, e2] at ih
    rw [e3]
    rw [loop_eq pr 95 0 _ Tryz.f95 fn_95 _ rfl _ ann_95 _ rfl]
    obtain ⟨a0, a1, a2, a3, ⟨⟩⟩ := x
    simp -implicitDefEqProofs only [getD_app, set_app, lt_app, ltn_app, zero_le_cast, Int.toNat_natCast, hn, to_Entry ((a0, a1, a2, a3, ())), go_sem]
    exact ih
theorem to_EntryS (xs : List (Ty.Den SyT2)) (hb : xs.length ≤ 1000000000000) : callOf pr 95 [.d (.slice SyT2) xs] [] = some (.os (.t 448), [(448, .arr true false SyT2 xs)]) := by
  have h := tol_EntryS xs [] (by simp only [List.length_nil, wide]; omega)
  simp only [List.nil_append, List.length_nil] at h
  have h : loopOf pr 95 0 ⟨[(0, .d (.slice SyT2) xs), (3, .os (.t 448)), (4, I 0)], [(448, .arr true false SyT2 (List.replicate xs.length ((0 : Int), false, false, false, ())))]⟩ = _ := h
  have h1 : (((16 : Nat) : Int) * (xs.length : Int) ≤ 140737488355328) = True := by simp; omega
  have h2 : ((xs.length : Int) ≤ 9223372036854775807) = True := by simp; omega
  rw [call_eq pr 95 _ _ Tryz.f95 fn_95 _ rfl _ ann_95 rfl]
  simp -implicitDefEqProofs only [zero_le_cast, Int.le_refl, h1, h2, Int.toNat_natCast, h, go_sem]

theorem tol_EntrySS (xs : List (Ty.Den (.slice SyT2))) : ∀ (done : List (Ty.Den (.slice SyT2))), done.length + xs.length ≤ wide → (∀ x ∈ xs, x.length ≤ 1000000000000) →
    loopOf pr 47 0 ⟨[(0, .d (.slice (.slice SyT2)) (done ++ xs)), (3, .os (.t 448)), (4, I done.length)], [(448, .arr true true (.slice SyT2) (done ++ List.replicate xs.length ([] : List (Ty.Den SyT2))))]⟩ = some (.exit 0, ⟨[(0, .d (.slice (.slice SyT2)) (done ++ xs)), (3, .os (.t 448)), (4, I ((done.length + xs.length : Nat) : Int))], [(448, .arr true true (.slice SyT2) (done ++ xs))]⟩) := by
  induction xs with
  | nil =>
    intro done hb hx
    rw [loop_eq pr 47 0 _ Tryz.f47 fn_47 _ rfl _ ann_47 _ rfl]
    simp -implicitDefEqProofs only [Int.lt_irrefl, List.append_nil, Nat.add_zero, go_sem]
  | cons x xs ih =>
    intro done hb hx
    simp only [List.length_cons, wide] at hb
    have hn : IntKind.i64.wrap ((done.length : Int) + 1) = ((done.length + 1 : Nat) : Int) := by rw [wrap_i] <;> omega
    have ih := ih (done ++ [x]) (by simp only [List.length_append, List.length_cons, List.length_nil, wide]; omega) (fun y hy => hx y (by simp [hy]))
    have e1 : (done ++ [x]).length = done.length + 1 := by simp
    have e2 : done.length + 1 + xs.length = done.length + (x :: xs).length := by simp; omega
    have e3 : List.replicate (x :: xs).length ([] : List (Ty.Den SyT2)) = ([] : List (Ty.Den SyT2)) :: List.replicate xs.length ([] : List (Ty.Den SyT2)) := rfl
    rw [app_one, app_one, e1, e2] at ih
    rw [e3]
    rw [loop_eq pr 47 0 _ Tryz.f47 fn_47 _ rfl _ ann_47 _ rfl]
    simp -implicitDefEqProofs only [getD_app, set_app, lt_app, ltn_app, zero_le_cast, Int.toNat_natCast, hn, to_EntryS x (hx x (by simp)), go_sem]
    exact ih
theorem to_EntrySS (xs : List (Ty.Den (.slice SyT2))) (hb : xs.length ≤ 1000000000000) (hx : ∀ x ∈ xs, x.length ≤ 1000000000000) : callOf pr 47 [.d (.slice (.slice SyT2)) xs] [] = some (.os (.t 448), [(448, .arr true true (.slice SyT2) xs)]) := by
  have h := tol_EntrySS xs [] (by simp only [List.length_nil, wide]; omega) hx
  simp only [List.nil_append, List.length_nil] at h
  have h : loopOf pr 47 0 ⟨[(0, .d (.slice (.slice SyT2)) xs), (3, .os (.t 448)), (4, I 0)], [(448, .arr true true (.slice SyT2) (List.replicate xs.length ([] : List (Ty.Den SyT2))))]⟩ = _ := h
  have h1 : (((24 : Nat) : Int) * (xs.length : Int) ≤ 140737488355328) = True := by simp; omega
  have h2 : ((xs.length : Int) ≤ 9223372036854775807) = True := by simp; omega
  rw [call_eq pr 47 _ _ Tryz.f47 fn_47 _ rfl _ ann_47 rfl]
  simp -implicitDefEqProofs only [zero_le_cast, Int.le_refl, h1, h2, Int.toNat_natCast, h, go_sem]

theorem to_Cached (x : Ty.Den SyT1) : callOf pr 96 [.agg [I x.1, I x.2.1, B x.2.2.1]] [] = some (.agg [I x.1, I x.2.1, B x.2.2.1], []) := by
  rw [call_eq pr 96 _ _ Tryz.f96 fn_96 _ rfl _ ann_96 rfl]
  simp -implicitDefEqProofs only [go_sem]

theorem tol_CachedS (xs : List (Ty.Den SyT1)) : ∀ (done : List (Ty.Den SyT1)), done.length + xs.length ≤ wide →
    loopOf pr 48 0 ⟨[(0, .d (.slice SyT1) (done ++ xs)), (3, .os (.t 448)), (4, I done.length)], [(448, .arr true false SyT1 (done ++ List.replicate xs.length ((0 : Int), (0 : Int), false, ())))]⟩ = some (.exit 0, ⟨[(0, .d (.slice SyT1) (done ++ xs)), (3, .os (.t 448)), (4, I ((done.length + xs.length : Nat) : Int))], [(448, .arr true false SyT1 (done ++ xs))]⟩) := by
  induction xs with
  | nil =>
    intro done hb
    rw [loop_eq pr 48 0 _ Tryz.f48 fn_48 _ rfl _ ann_48 _ rfl]
    simp -implicitDefEqProofs only [Int.lt_irrefl, List.append_nil, Nat.add_zero, go_sem]
  | cons x xs ih =>
    intro done hb
    simp only [List.length_cons, wide] at hb
    have hn : IntKind.i64.wrap ((done.length : Int) + 1) = ((done.length + 1 : Nat) : Int) := by rw [wrap_i] <;> omega
    have ih := ih (done ++ [x]) (by simp only [List.length_append, List.length_cons, List.length_nil, wide]; omega)
    have e1 : (done ++ [x]).length = done.length + 1 := by simp
    have e2 : done.length + 1 + xs.length = done.length + (x :: xs).length := by simp; omega
    have e3 : List.replicate (x :: xs).length ((0 : Int), (0 : Int), false, ()) = ((0 : Int), (0 : Int), false, ()) :: List.replicate xs.length ((0 : Int), (0 : Int), false, ()) := rfl
    rw [app_one, app_one, e1, e2] at ih
    rw [e3]
    rw [loop_eq pr 48 0 _ Tryz.f48 fn_48 _ rfl _ ann_48 _ rfl]
    obtain ⟨a0, a1, a2, ⟨⟩⟩ := x
    simp -implicitDefEqProofs only [getD_app, set_app, lt_app, ltn_app, zero_le_cast, Int.toNat_natCast, hn, to_Cached ((a0, a1, a2, ())), go_sem]
    exact ih
theorem to_CachedS (xs : List (Ty.Den SyT1)) (hb : xs.length ≤ 1000000000000) : callOf pr 48 [.d (.slice SyT1) xs] [] = some (.os (.t 448), [(448, .arr true false SyT1 xs)]) := by
  have h := tol_CachedS xs [] (by simp only [List.length_nil, wide]; omega)
  simp only [List.nil_append, List.length_nil] at h
  have h : loopOf pr 48 0 ⟨[(0, .d (.slice SyT1) xs), (3, .os (.t 448)), (4, I 0)], [(448, .arr true false SyT1 (List.replicate xs.length ((0 : Int), (0 : Int), false, ())))]⟩ = _ := h
  have h1 : (((24 : Nat) : Int) * (xs.length : Int) ≤ 140737488355328) = True := by simp; omega
  have h2 : ((xs.length : Int) ≤ 9223372036854775807) = True := by simp; omega
  rw [call_eq pr 48 _ _ Tryz.f48 fn_48 _ rfl _ ann_48 rfl]
  simp -implicitDefEqProofs only [zero_le_cast, Int.le_refl, h1, h2, Int.toNat_natCast, h, go_sem]

theorem to_Space (x : Ty.Den (.agg (.cons (.slice (.int .i64)) (.cons (.slice (.slice SyT2)) (.cons (.slice SyT1) .nil))))) (ha : Bd small (.agg (.cons (.slice (.int .i64)) (.cons (.slice (.slice SyT2)) (.cons (.slice SyT1) .nil)))) x) : callOf pr 9 [.agg [.d (.slice (.int .i64)) x.1, .d (.slice (.slice SyT2)) x.2.1, .d (.slice SyT1) x.2.2.1]] [] = some (.agg [.os (.t 384), .os (.t 640), .os (.t 896)], [(384, .arr true false (.int .i64) x.1), (640, .arr true true (.slice SyT2) x.2.1), (896, .arr true false SyT1 x.2.2.1)]) := by
  have h0 := to_Int64S x.1 (Nat.le_trans ha.1.1 (by decide))
  have h1 := to_EntrySS x.2.1 (Nat.le_trans ha.2.1.1 (by decide)) (fun y hy => Nat.le_trans (ha.2.1.2 y hy).1 (by decide))
  have h2 := to_CachedS x.2.2.1 (Nat.le_trans ha.2.2.1.1 (by decide))
  rw [call_eq pr 9 _ _ Tryz.f9 fn_9 _ rfl _ ann_9 rfl]
  simp -implicitDefEqProofs only [h0, h1, h2, go_sem]

theorem eql_Int64S (xs : List (Ty.Den (.int .i64))) : ∀ (done : List (Ty.Den (.int .i64))), done.length + xs.length ≤ wide → (∀ x ∈ xs, Bd wide (.int .i64) x) →
    loopOf pr 19 0 ⟨[(0, .d (.slice (.int .i64)) (done ++ xs)), (1, .d (.slice (.int .i64)) (done ++ xs)), (5, I done.length)], []⟩ = some (.exit 0, ⟨[(0, .d (.slice (.int .i64)) (done ++ xs)), (1, .d (.slice (.int .i64)) (done ++ xs)), (5, I ((done.length + xs.length : Nat) : Int))], []⟩) := by
  induction xs with
  | nil =>
    intro done hb hx
    rw [loop_eq pr 19 0 _ Tryz.f19 fn_19 _ rfl _ ann_19 _ rfl]
    simp -implicitDefEqProofs only [Int.lt_irrefl, List.append_nil, Nat.add_zero, go_sem]
  | cons x xs ih =>
    intro done hb hx
    simp only [List.length_cons, wide] at hb
    have hn : IntKind.i64.wrap ((done.length : Int) + 1) = ((done.length + 1 : Nat) : Int) := by rw [wrap_i] <;> omega
    have ih := ih (done ++ [x]) (by simp only [List.length_append, List.length_cons, List.length_nil, wide]; omega) (fun y hy => hx y (by simp [hy]))
    have e1 : (done ++ [x]).length = done.length + 1 := by simp
    have e2 : done.length + 1 + xs.length = done.length + (x :: xs).length := by simp; omega
    rw [app_one, e1, e2] at ih
    rw [loop_eq pr 19 0 _ Tryz.f19 fn_19 _ rfl _ ann_19 _ rfl]
    simp -implicitDefEqProofs only [getD_app, set_app, lt_app, ltn_app, zero_le_cast, Int.toNat_natCast, hn, BEq.rfl, beq_self_eq_true, decide_true, go_sem]
    exact ih
theorem eq_Int64S (xs : List (Ty.Den (.int .i64))) (ha : Bd wide (.slice (.int .i64)) xs) : callOf pr 19 [.d (.slice (.int .i64)) xs, .d (.slice (.int .i64)) xs] [] = some (B true, []) := by
  have h := eql_Int64S xs [] (by rw [List.length_nil, Nat.zero_add]; exact ha.1) ha.2
  simp only [List.nil_append, List.length_nil] at h
  have h : loopOf pr 19 0 ⟨[(0, .d (.slice (.int .i64)) xs), (1, .d (.slice (.int .i64)) xs), (5, I 0)], []⟩ = _ := h
  rw [call_eq pr 19 _ _ Tryz.f19 fn_19 _ rfl _ ann_19 rfl]
  simp -implicitDefEqProofs only [h, go_sem]
theorem eqn_Int64S : callOf pr 19 [.nilS, .nilS] [] = some (B true, []) := by
  have h : loopOf pr 19 0 ⟨[(0, .nilS), (1, .nilS), (5, I 0)], []⟩ = some (.exit 0, ⟨[(0, .nilS), (1, .nilS), (5, I 0)], []⟩) := by
    rw [loop_eq pr 19 0 _ Tryz.f19 fn_19 _ rfl _ ann_19 _ rfl]
    simp -implicitDefEqProofs only [Int.lt_irrefl, go_sem]
  rw [call_eq pr 19 _ _ Tryz.f19 fn_19 _ rfl _ ann_19 rfl]
  simp -implicitDefEqProofs only [h, go_sem]
theorem eq_Access (x : Ty.Den SyT0) : callOf pr 61 [.agg [I x.1, I x.2.1], .agg [I x.1, I x.2.1]] [] = some (B true, []) := by
  rw [call_eq pr 61 _ _ Tryz.f61 fn_61 _ rfl _ ann_61 rfl]
  simp -implicitDefEqProofs only [BEq.rfl, beq_self_eq_true, decide_true, go_sem]

theorem eql_AccessS (xs : List (Ty.Den SyT0)) : ∀ (done : List (Ty.Den SyT0)), done.length + xs.length ≤ wide → (∀ x ∈ xs, Bd wide SyT0 x) →
    loopOf pr 20 0 ⟨[(0, .d (.slice SyT0) (done ++ xs)), (1, .d (.slice SyT0) (done ++ xs)), (5, I done.length)], []⟩ = some (.exit 0, ⟨[(0, .d (.slice SyT0) (done ++ xs)), (1, .d (.slice SyT0) (done ++ xs)), (5, I ((done.length + xs.length : Nat) : Int))], []⟩) := by
  induction xs with
  | nil =>
    intro done hb hx
    rw [loop_eq pr 20 0 _ Tryz.f20 fn_20 _ rfl _ ann_20 _ rfl]
    simp -implicitDefEqProofs only [Int.lt_irrefl, List.append_nil, Nat.add_zero, go_sem]
  | cons x xs ih =>
    intro done hb hx
    simp only [List.length_cons, wide] at hb
    have hn : IntKind.i64.wrap ((done.length : Int) + 1) = ((done.length + 1 : Nat) : Int) := by rw [wrap_i] <;> omega
    have ih := ih (done ++ [x]) (by simp only [List.length_append, List.length_cons, List.length_nil, wide]; omega) (fun y hy => hx y (by simp [hy]))
    have e1 : (done ++ [x]).length = done.length + 1 := by simp
    have e2 : done.length + 1 + xs.length = done.length + (x :: xs).length := by simp; omega
    rw [app_one, e1, e2] at ih
    rw [loop_eq pr 20 0 _ Tryz.f20 fn_20 _ rfl _ ann_20 _ rfl]
    simp -implicitDefEqProofs only [getD_app, set_app, lt_app, ltn_app, zero_le_cast, Int.toNat_natCast, hn, BEq.rfl, beq_self_eq_true, decide_true, eq_Access x, go_sem]
    exact ih
theorem eq_AccessS (xs : List (Ty.Den SyT0)) (ha : Bd wide (.slice SyT0) xs) : callOf pr 20 [.d (.slice SyT0) xs, .d (.slice SyT0) xs] [] = some (B true, []) := by
  have h := eql_AccessS xs [] (by rw [List.length_nil, Nat.zero_add]; exact ha.1) ha.2
  simp only [List.nil_append, List.length_nil] at h
  have h : loopOf pr 20 0 ⟨[(0, .d (.slice SyT0) xs), (1, .d (.slice SyT0) xs), (5, I 0)], []⟩ = _ := h
  rw [call_eq pr 20 _ _ Tryz.f20 fn_20 _ rfl _ ann_20 rfl]
  simp -implicitDefEqProofs only [h, go_sem]
theorem eq_Entry (x : Ty.Den SyT2) : callOf pr 139 [.agg [I x.1, B x.2.1, B x.2.2.1, B x.2.2.2.1], .agg [I x.1, B x.2.1, B x.2.2.1, B x.2.2.2.1]] [] = some (B true, []) := by
  rw [call_eq pr 139 _ _ Tryz.f139 fn_139 _ rfl _ ann_139 rfl]
  simp -implicitDefEqProofs only [BEq.rfl, beq_self_eq_true, decide_true, go_sem]

theorem eql_EntryS (xs : List (Ty.Den SyT2)) : ∀ (done : List (Ty.Den SyT2)), done.length + xs.length ≤ wide → (∀ x ∈ xs, Bd wide SyT2 x) →
    loopOf pr 113 0 ⟨[(0, .d (.slice SyT2) (done ++ xs)), (1, .d (.slice SyT2) (done ++ xs)), (5, I done.length)], []⟩ = some (.exit 0, ⟨[(0, .d (.slice SyT2) (done ++ xs)), (1, .d (.slice SyT2) (done ++ xs)), (5, I ((done.length + xs.length : Nat) : Int))], []⟩) := by
  induction xs with
  | nil =>
    intro done hb hx
    rw [loop_eq pr 113 0 _ Tryz.f113 fn_113 _ rfl _ ann_113 _ rfl]
    simp -implicitDefEqProofs only [Int.lt_irrefl, List.append_nil, Nat.add_zero, go_sem]
  | cons x xs ih =>
    intro done hb hx
    simp only [List.length_cons, wide] at hb
    have hn : IntKind.i64.wrap ((done.length : Int) + 1) = ((done.length + 1 : Nat) : Int) := by rw [wrap_i] <;> omega
    have ih := ih (done ++ [x]) (by simp only [List.length_append, List.length_cons, List.length_nil, wide]; omega) (fun y hy => hx y (by simp [hy]))
    have e1 : (done ++ [x]).length = done.length + 1 := by simp
    have e2 : done.length + 1 + xs.length = done.length + (x :: xs).length := by simp; omega
    rw [app_one, e1, e2] at ih
    rw [loop_eq pr 113 0 _ Tryz.f113 fn_113 _ rfl _ ann_113 _ rfl]
    simp -implicitDefEqProofs only [getD_app, set_app, lt_app, ltn_app, zero_le_cast, Int.toNat_natCast, hn, BEq.rfl, beq_self_eq_true, decide_true, eq_Entry x, go_sem]
    exact ih
theorem eq_EntryS (xs : List (Ty.Den SyT2)) (ha : Bd wide (.slice SyT2) xs) : callOf pr 113 [.d (.slice SyT2) xs, .d (.slice SyT2) xs] [] = some (B true, []) := by
  have h := eql_EntryS xs [] (by rw [List.length_nil, Nat.zero_add]; exact ha.1) ha.2
  simp only [List.nil_append, List.length_nil] at h
  have h : loopOf pr 113 0 ⟨[(0, .d (.slice SyT2) xs), (1, .d (.slice SyT2) xs), (5, I 0)], []⟩ = _ := h
  rw [call_eq pr 113 _ _ Tryz.f113 fn_113 _ rfl _ ann_113 rfl]
  simp -implicitDefEqProofs only [h, go_sem]
theorem eql_EntrySS (xs : List (Ty.Den (.slice SyT2))) : ∀ (done : List (Ty.Den (.slice SyT2))), done.length + xs.length ≤ wide → (∀ x ∈ xs, Bd wide (.slice SyT2) x) →
    loopOf pr 53 0 ⟨[(0, .d (.slice (.slice SyT2)) (done ++ xs)), (1, .d (.slice (.slice SyT2)) (done ++ xs)), (5, I done.length)], []⟩ = some (.exit 0, ⟨[(0, .d (.slice (.slice SyT2)) (done ++ xs)), (1, .d (.slice (.slice SyT2)) (done ++ xs)), (5, I ((done.length + xs.length : Nat) : Int))], []⟩) := by
  induction xs with
  | nil =>
    intro done hb hx
    rw [loop_eq pr 53 0 _ Tryz.f53 fn_53 _ rfl _ ann_53 _ rfl]
    simp -implicitDefEqProofs only [Int.lt_irrefl, List.append_nil, Nat.add_zero, go_sem]
  | cons x xs ih =>
    intro done hb hx
    simp only [List.length_cons, wide] at hb
    have hn : IntKind.i64.wrap ((done.length : Int) + 1) = ((done.length + 1 : Nat) : Int) := by rw [wrap_i] <;> omega
    have ih := ih (done ++ [x]) (by simp only [List.length_append, List.length_cons, List.length_nil, wide]; omega) (fun y hy => hx y (by simp [hy]))
    have e1 : (done ++ [x]).length = done.length + 1 := by simp
    have e2 : done.length + 1 + xs.length = done.length + (x :: xs).length := by simp; omega
    rw [app_one, e1, e2] at ih
    rw [loop_eq pr 53 0 _ Tryz.f53 fn_53 _ rfl _ ann_53 _ rfl]
    simp -implicitDefEqProofs only [getD_app, set_app, lt_app, ltn_app, zero_le_cast, Int.toNat_natCast, hn, BEq.rfl, beq_self_eq_true, decide_true, eq_EntryS x (hx x (by simp)), go_sem]
    exact ih
theorem eq_EntrySS (xs : List (Ty.Den (.slice SyT2))) (ha : Bd wide (.slice (.slice SyT2)) xs) : callOf pr 53 [.d (.slice (.slice SyT2)) xs, .d (.slice (.slice SyT2)) xs] [] = some (B true, []) := by
  have h := eql_EntrySS xs [] (by rw [List.length_nil, Nat.zero_add]; exact ha.1) ha.2
  simp only [List.nil_append, List.length_nil] at h
  have h : loopOf pr 53 0 ⟨[(0, .d (.slice (.slice SyT2)) xs), (1, .d (.slice (.slice SyT2)) xs), (5, I 0)], []⟩ = _ := h
  rw [call_eq pr 53 _ _ Tryz.f53 fn_53 _ rfl _ ann_53 rfl]
  simp -implicitDefEqProofs only [h, go_sem]
theorem eqn_EntrySS : callOf pr 53 [.nilS, .nilS] [] = some (B true, []) := by
  have h : loopOf pr 53 0 ⟨[(0, .nilS), (1, .nilS), (5, I 0)], []⟩ = some (.exit 0, ⟨[(0, .nilS), (1, .nilS), (5, I 0)], []⟩) := by
    rw [loop_eq pr 53 0 _ Tryz.f53 fn_53 _ rfl _ ann_53 _ rfl]
    simp -implicitDefEqProofs only [Int.lt_irrefl, go_sem]
  rw [call_eq pr 53 _ _ Tryz.f53 fn_53 _ rfl _ ann_53 rfl]
  simp -implicitDefEqProofs only [h, go_sem]
theorem eqe_EntrySS : callOf pr 53 [.nilS, .d (.slice (.slice SyT2)) ([] : List (Ty.Den (.slice SyT2)))] [] = some (B true, []) := by
  have h : loopOf pr 53 0 ⟨[(0, .nilS), (1, .d (.slice (.slice SyT2)) ([] : List (Ty.Den (.slice SyT2)))), (5, I 0)], []⟩ = some (.exit 0, ⟨[(0, .nilS), (1, .d (.slice (.slice SyT2)) ([] : List (Ty.Den (.slice SyT2)))), (5, I 0)], []⟩) := by
    rw [loop_eq pr 53 0 _ Tryz.f53 fn_53 _ rfl _ ann_53 _ rfl]
    simp -implicitDefEqProofs only [Int.lt_irrefl, Int.natCast_zero, go_sem]
  rw [call_eq pr 53 _ _ Tryz.f53 fn_53 _ rfl _ ann_53 rfl]
  simp -implicitDefEqProofs only [h, Int.natCast_zero, go_sem]

theorem eq_Cached (x : Ty.Den SyT1) : callOf pr 114 [.agg [I x.1, I x.2.1, B x.2.2.1], .agg [I x.1, I x.2.1, B x.2.2.1]] [] = some (B true, []) := by
  rw [call_eq pr 114 _ _ Tryz.f114 fn_114 _ rfl _ ann_114 rfl]
  simp -implicitDefEqProofs only [BEq.rfl, beq_self_eq_true, decide_true, go_sem]

theorem eql_CachedS (xs : List (Ty.Den SyT1)) : ∀ (done : List (Ty.Den SyT1)), done.length + xs.length ≤ wide → (∀ x ∈ xs, Bd wide SyT1 x) →
    loopOf pr 54 0 ⟨[(0, .d (.slice SyT1) (done ++ xs)), (1, .d (.slice SyT1) (done ++ xs)), (5, I done.length)], []⟩ = some (.exit 0, ⟨[(0, .d (.slice SyT1) (done ++ xs)), (1, .d (.slice SyT1) (done ++ xs)), (5, I ((done.length + xs.length : Nat) : Int))], []⟩) := by
  induction xs with
  | nil =>
    intro done hb hx
    rw [loop_eq pr 54 0 _ Tryz.f54 fn_54 _ rfl _ ann_54 _ rfl]
    simp -implicitDefEqProofs only [Int.lt_irrefl, List.append_nil, Nat.add_zero, go_sem]
  | cons x xs ih =>
    intro done hb hx
    simp only [List.length_cons, wide] at hb
    have hn : IntKind.i64.wrap ((done.length : Int) + 1) = ((done.length + 1 : Nat) : Int) := by rw [wrap_i] <;> omega
    have ih := ih (done ++ [x]) (by simp only [List.length_append, List.length_cons, List.length_nil, wide]; omega) (fun y hy => hx y (by simp [hy]))
    have e1 : (done ++ [x]).length = done.length + 1 := by simp
    have e2 : done.length + 1 + xs.length = done.length + (x :: xs).length := by simp; omega
    rw [app_one, e1, e2] at ih
    rw [loop_eq pr 54 0 _ Tryz.f54 fn_54 _ rfl _ ann_54 _ rfl]
    simp -implicitDefEqProofs only [getD_app, set_app, lt_app, ltn_app, zero_le_cast, Int.toNat_natCast, hn, BEq.rfl, beq_self_eq_true, decide_true, eq_Cached x, go_sem]
    exact ih
theorem eq_CachedS (xs : List (Ty.Den SyT1)) (ha : Bd wide (.slice SyT1) xs) : callOf pr 54 [.d (.slice SyT1) xs, .d (.slice SyT1) xs] [] = some (B true, []) := by
  have h := eql_CachedS xs [] (by rw [List.length_nil, Nat.zero_add]; exact ha.1) ha.2
  simp only [List.nil_append, List.length_nil] at h
  have h : loopOf pr 54 0 ⟨[(0, .d (.slice SyT1) xs), (1, .d (.slice SyT1) xs), (5, I 0)], []⟩ = _ := h
  rw [call_eq pr 54 _ _ Tryz.f54 fn_54 _ rfl _ ann_54 rfl]
  simp -implicitDefEqProofs only [h, go_sem]
theorem eqn_CachedS : callOf pr 54 [.nilS, .nilS] [] = some (B true, []) := by
  have h : loopOf pr 54 0 ⟨[(0, .nilS), (1, .nilS), (5, I 0)], []⟩ = some (.exit 0, ⟨[(0, .nilS), (1, .nilS), (5, I 0)], []⟩) := by
    rw [loop_eq pr 54 0 _ Tryz.f54 fn_54 _ rfl _ ann_54 _ rfl]
    simp -implicitDefEqProofs only [Int.lt_irrefl, go_sem]
  rw [call_eq pr 54 _ _ Tryz.f54 fn_54 _ rfl _ ann_54 rfl]
  simp -implicitDefEqProofs only [h, go_sem]
theorem eqe_CachedS : callOf pr 54 [.nilS, .d (.slice SyT1) ([] : List (Ty.Den SyT1))] [] = some (B true, []) := by
  have h : loopOf pr 54 0 ⟨[(0, .nilS), (1, .d (.slice SyT1) ([] : List (Ty.Den SyT1))), (5, I 0)], []⟩ = some (.exit 0, ⟨[(0, .nilS), (1, .d (.slice SyT1) ([] : List (Ty.Den SyT1))), (5, I 0)], []⟩) := by
    rw [loop_eq pr 54 0 _ Tryz.f54 fn_54 _ rfl _ ann_54 _ rfl]
    simp -implicitDefEqProofs only [Int.lt_irrefl, Int.natCast_zero, go_sem]
  rw [call_eq pr 54 _ _ Tryz.f54 fn_54 _ rfl _ ann_54 rfl]
  simp -implicitDefEqProofs only [h, Int.natCast_zero, go_sem]

theorem eq_Space (x : Ty.Den (.agg (.cons (.slice (.int .i64)) (.cons (.slice (.slice SyT2)) (.cons (.slice SyT1) .nil))))) (ha : Bd wide (.agg (.cons (.slice (.int .i64)) (.cons (.slice (.slice SyT2)) (.cons (.slice SyT1) .nil)))) x) : callOf pr 12 [.agg [.d (.slice (.int .i64)) x.1, .d (.slice (.slice SyT2)) x.2.1, .d (.slice SyT1) x.2.2.1], .agg [.d (.slice (.int .i64)) x.1, .d (.slice (.slice SyT2)) x.2.1, .d (.slice SyT1) x.2.2.1]] [] = some (B true, []) := by
  rw [call_eq pr 12 _ _ Tryz.f12 fn_12 _ rfl _ ann_12 rfl]
  simp -implicitDefEqProofs only [BEq.rfl, beq_self_eq_true, decide_true, eq_Int64S x.1 ha.1, eq_EntrySS x.2.1 ha.2.1, eq_CachedS x.2.2.1 ha.2.2.1, go_sem]
theorem eqn_Space : callOf pr 12 [.agg [.nilS, .nilS, .nilS], .agg [.nilS, .nilS, .nilS]] [] = some (B true, []) := by
  rw [call_eq pr 12 _ _ Tryz.f12 fn_12 _ rfl _ ann_12 rfl]
  simp -implicitDefEqProofs only [BEq.rfl, beq_self_eq_true, decide_true, eqn_Int64S, eqn_EntrySS, eqn_CachedS, go_sem]

theorem markl_Int64S (xs : List (Ty.Den (.int .i64))) : ∀ (done : List (Ty.Den (.int .i64))) (m : Int), 0 ≤ m → m + cnt (.slice (.int .i64)) xs ≤ wide → done.length + xs.length ≤ wide →
    loopOf pr 22 0 ⟨[(0, .os (.t 1000000)), (1, I m), (5, I done.length)], [(1000000, .arr false false (.int .i64) (done ++ xs))]⟩ = some (.exit 0, ⟨[(0, .os (.t 1000000)), (1, I (markD (.slice (.int .i64)) m xs).2), (5, I ((done.length + xs.length : Nat) : Int))], [(1000000, .arr false false (.int .i64) (done ++ (markD (.slice (.int .i64)) m xs).1))]⟩) := by
  induction xs with
  | nil =>
    intro done m h0 h1 hb
    rw [loop_eq pr 22 0 _ Tryz.f22 fn_22 _ rfl _ ann_22 _ rfl]
    simp only [markD_slice, markS_nil]
    simp -implicitDefEqProofs only [Int.lt_irrefl, List.append_nil, Nat.add_zero, go_sem]
  | cons x xs ih =>
    intro done m h0 h1 hb
    simp only [List.length_cons, wide] at hb
    have hn : IntKind.i64.wrap ((done.length : Int) + 1) = ((done.length + 1 : Nat) : Int) := by rw [wrap_i] <;> omega
    have hc : cnt (.slice (.int .i64)) (x :: xs) = 1 + cnt (.slice (.int .i64)) xs := by simp [cnt, List.map_cons, List.sum_cons]
    rw [hc] at h1
    simp only [wide] at h1
    have hw0 : IntKind.i64.wrap (m + 1) = m + 1 := by rw [wrap_i] <;> omega
    have ih := ih (done ++ [m]) (m + 1) (by omega) (by simp only [wide]; omega) (by simp only [List.length_append, List.length_cons, List.length_nil, wide]; omega)
    have e1 : (done ++ [m]).length = done.length + 1 := by simp
    have e2 : done.length + 1 + xs.length = done.length + (x :: xs).length := by simp; omega
    rw [app_one, app_one, e1, e2] at ih
    rw [loop_eq pr 22 0 _ Tryz.f22 fn_22 _ rfl _ ann_22 _ rfl]
    simp -implicitDefEqProofs only [getD_app, set_app, lt_app, ltn_app, zero_le_cast, Int.toNat_natCast, hn, hw0, go_sem]
    exact ih
theorem mark_Int64S (xs : List (Ty.Den (.int .i64))) (m : Int) (h0 : 0 ≤ m) (h1 : m + cnt (.slice (.int .i64)) xs ≤ wide) (hb : xs.length ≤ wide) : callOf pr 22 [.os (.t 1000000), I m] [(1000000, .arr false false (.int .i64) xs)] = some (I (markD (.slice (.int .i64)) m xs).2, [(1000000, .arr false false (.int .i64) (markD (.slice (.int .i64)) m xs).1)]) := by
  have h := markl_Int64S xs [] m h0 h1 (by rw [List.length_nil, Nat.zero_add]; exact hb)
  simp only [List.nil_append, List.length_nil] at h
  have h : loopOf pr 22 0 ⟨[(0, .os (.t 1000000)), (1, I m), (5, I 0)], [(1000000, .arr false false (.int .i64) xs)]⟩ = _ := h
  rw [call_eq pr 22 _ _ Tryz.f22 fn_22 _ rfl _ ann_22 rfl]
  simp -implicitDefEqProofs only [h, go_sem]
theorem markn_Int64S (m : Int) : callOf pr 22 [.nilS, I m] [] = some (I m, []) := by
  have h : loopOf pr 22 0 ⟨[(0, .nilS), (1, I m), (5, I 0)], []⟩ = some (.exit 0, ⟨[(0, .nilS), (1, I m), (5, I 0)], []⟩) := by
    rw [loop_eq pr 22 0 _ Tryz.f22 fn_22 _ rfl _ ann_22 _ rfl]
    simp -implicitDefEqProofs only [Int.lt_irrefl, go_sem]
  rw [call_eq pr 22 _ _ Tryz.f22 fn_22 _ rfl _ ann_22 rfl]
  simp -implicitDefEqProofs only [h, go_sem]

theorem markl_AccessS (xs : List (Ty.Den SyT0)) : ∀ (done : List (Ty.Den SyT0)) (m : Int), 0 ≤ m → m + cnt (.slice SyT0) xs ≤ wide → done.length + xs.length ≤ wide →
    loopOf pr 21 0 ⟨[(0, .os (.t 1000000)), (1, I m), (5, I done.length)], [(1000000, .arr false false SyT0 (done ++ xs))]⟩ = some (.exit 0, ⟨[(0, .os (.t 1000000)), (1, I (markD (.slice SyT0) m xs).2), (5, I ((done.length + xs.length : Nat) : Int))], [(1000000, .arr false false SyT0 (done ++ (markD (.slice SyT0) m xs).1))]⟩) := by
  induction xs with
  | nil =>
    intro done m h0 h1 hb
    rw [loop_eq pr 21 0 _ Tryz.f21 fn_21 _ rfl _ ann_21 _ rfl]
    simp only [markD_slice, markS_nil]
    simp -implicitDefEqProofs only [Int.lt_irrefl, List.append_nil, Nat.add_zero, go_sem]
  | cons x xs ih =>
    intro done m h0 h1 hb
    simp only [List.length_cons, wide] at hb
    have hn : IntKind.i64.wrap ((done.length : Int) + 1) = ((done.length + 1 : Nat) : Int) := by rw [wrap_i] <;> omega
    have hc : cnt (.slice SyT0) (x :: xs) = 2 + cnt (.slice SyT0) xs := by simp [cnt, List.map_cons, List.sum_cons]
    rw [hc] at h1
    simp only [wide] at h1
    have hw0 : IntKind.i64.wrap (m + 1) = m + 1 := by rw [wrap_i] <;> omega
    have hw1 : IntKind.i64.wrap (m + 1 + 1) = m + 1 + 1 := by rw [wrap_i] <;> omega
    have ih := ih (done ++ [(m, (m + 1), ())]) (m + 1 + 1) (by omega) (by simp only [wide]; omega) (by simp only [List.length_append, List.length_cons, List.length_nil, wide]; omega)
    have e1 : (done ++ [(m, (m + 1), ())]).length = done.length + 1 := by simp
    have e2 : done.length + 1 + xs.length = done.length + (x :: xs).length := by simp; omega
    rw [app_one, app_one, e1, e2] at ih
    rw [loop_eq pr 21 0 _ Tryz.f21 fn_21 _ rfl _ ann_21 _ rfl]
    obtain ⟨a0, a1, ⟨⟩⟩ := x
    simp -implicitDefEqProofs only [getD_app, set_app, lt_app, ltn_app, zero_le_cast, Int.toNat_natCast, hn, hw0, hw1, go_sem]
    exact ih
theorem mark_AccessS (xs : List (Ty.Den SyT0)) (m : Int) (h0 : 0 ≤ m) (h1 : m + cnt (.slice SyT0) xs ≤ wide) (hb : xs.length ≤ wide) : callOf pr 21 [.os (.t 1000000), I m] [(1000000, .arr false false SyT0 xs)] = some (I (markD (.slice SyT0) m xs).2, [(1000000, .arr false false SyT0 (markD (.slice SyT0) m xs).1)]) := by
  have h := markl_AccessS xs [] m h0 h1 (by rw [List.length_nil, Nat.zero_add]; exact hb)
  simp only [List.nil_append, List.length_nil] at h
  have h : loopOf pr 21 0 ⟨[(0, .os (.t 1000000)), (1, I m), (5, I 0)], [(1000000, .arr false false SyT0 xs)]⟩ = _ := h
  rw [call_eq pr 21 _ _ Tryz.f21 fn_21 _ rfl _ ann_21 rfl]
  simp -implicitDefEqProofs only [h, go_sem]
theorem markl_EntryS (xs : List (Ty.Den SyT2)) : ∀ (done : List (Ty.Den SyT2)) (m : Int), 0 ≤ m → m + cnt (.slice SyT2) xs ≤ wide → done.length + xs.length ≤ wide →
    loopOf pr 115 0 ⟨[(0, .os (.t 1000000)), (1, I m), (5, I done.length)], [(1000000, .arr false false SyT2 (done ++ xs))]⟩ = some (.exit 0, ⟨[(0, .os (.t 1000000)), (1, I (markD (.slice SyT2) m xs).2), (5, I ((done.length + xs.length : Nat) : Int))], [(1000000, .arr false false SyT2 (done ++ (markD (.slice SyT2) m xs).1))]⟩) := by
  induction xs with
  | nil =>
    intro done m h0 h1 hb
    rw [loop_eq pr 115 0 _ Tryz.f115 fn_115 _ rfl _ ann_115 _ rfl]
    simp only [markD_slice, markS_nil]
    simp -implicitDefEqProofs only [Int.lt_irrefl, List.append_nil, Nat.add_zero, go_sem]
  | cons x xs ih =>
    intro done m h0 h1 hb
    simp only [List.length_cons, wide] at hb
    have hn : IntKind.i64.wrap ((done.length : Int) + 1) = ((done.length + 1 : Nat) : Int) := by rw [wrap_i] <;> omega
    have hc : cnt (.slice SyT2) (x :: xs) = 4 + cnt (.slice SyT2) xs := by simp [cnt, List.map_cons, List.sum_cons]
    rw [hc] at h1
    simp only [wide] at h1
    have hw0 : IntKind.i64.wrap (m + 1) = m + 1 := by rw [wrap_i] <;> omega
    have hw1 : IntKind.i64.wrap (m + 1 + 1) = m + 1 + 1 := by rw [wrap_i] <;> omega
    have hw2 : IntKind.i64.wrap (m + 1 + 1 + 1) = m + 1 + 1 + 1 := by rw [wrap_i] <;> omega
    have hw3 : IntKind.i64.wrap (m + 1 + 1 + 1 + 1) = m + 1 + 1 + 1 + 1 := by rw [wrap_i] <;> omega
    have ih := ih (done ++ [(m, (decide (Int.tmod (m + 1) 3 = 0)), (decide (Int.tmod (m + 1 + 1) 3 = 0)), (decide (Int.tmod (m + 1 + 1 + 1) 3 = 0)), ())]) (m + 1 + 1 + 1 + 1) (by omega) (by simp only [wide]; omega) (by simp only [List.length_append, List.length_cons, List.length_nil, wide]; omega)
    have e1 : (done ++ [(m, (decide (Int.tmod (m + 1) 3 = 0)), (decide (Int.tmod (m + 1 + 1) 3 = 0)), (decide (Int.tmod (m + 1 + 1 + 1) 3 = 0)), ())]).length = done.length + 1 := by simp
    have e2 : done.length + 1 + xs.length = done.length + (x :: xs).length := by simp; omega
    rw [app_one, app_one, e1, e2] at ih
    rw [loop_eq pr 115 0 _ Tryz.f115 fn_115 _ rfl _ ann_115 _ rfl]
    obtain ⟨a0, a1, a2, a3, ⟨⟩⟩ := x
    simp -implicitDefEqProofs only [getD_app, set_app, lt_app, ltn_app, zero_le_cast, Int.toNat_natCast, hn, hw0, hw1, hw2, hw3, go_sem]
    exact ih
theorem mark_EntryS (xs : List (Ty.Den SyT2)) (m : Int) (h0 : 0 ≤ m) (h1 : m + cnt (.slice SyT2) xs ≤ wide) (hb : xs.length ≤ wide) : callOf pr 115 [.os (.t 1000000), I m] [(1000000, .arr false false SyT2 xs)] = some (I (markD (.slice SyT2) m xs).2, [(1000000, .arr false false SyT2 (markD (.slice SyT2) m xs).1)]) := by
  have h := markl_EntryS xs [] m h0 h1 (by rw [List.length_nil, Nat.zero_add]; exact hb)
  simp only [List.nil_append, List.length_nil] at h
  have h : loopOf pr 115 0 ⟨[(0, .os (.t 1000000)), (1, I m), (5, I 0)], [(1000000, .arr false false SyT2 xs)]⟩ = _ := h
  rw [call_eq pr 115 _ _ Tryz.f115 fn_115 _ rfl _ ann_115 rfl]
  simp -implicitDefEqProofs only [h, go_sem]
theorem markl_EntrySS (xs : List (Ty.Den (.slice SyT2))) : ∀ (done : List (Ty.Den (.slice SyT2))) (m : Int), 0 ≤ m → m + cnt (.slice (.slice SyT2)) xs ≤ wide → done.length + xs.length ≤ wide → (∀ x ∈ xs, Bd wide (.slice SyT2) x) →
    loopOf pr 55 0 ⟨[(0, .os (.t 1000000)), (1, I m), (5, I done.length)], [(1000000, .arr false true (.slice SyT2) (done ++ xs))]⟩ = some (.exit 0, ⟨[(0, .os (.t 1000000)), (1, I (markD (.slice (.slice SyT2)) m xs).2), (5, I ((done.length + xs.length : Nat) : Int))], [(1000000, .arr false true (.slice SyT2) (done ++ (markD (.slice (.slice SyT2)) m xs).1))]⟩) := by
  induction xs with
  | nil =>
    intro done m h0 h1 hb hx
    rw [loop_eq pr 55 0 _ Tryz.f55 fn_55 _ rfl _ ann_55 _ rfl]
    simp only [markD_slice, markS_nil]
    simp -implicitDefEqProofs only [Int.lt_irrefl, List.append_nil, Nat.add_zero, go_sem]
  | cons x xs ih =>
    intro done m h0 h1 hb hx
    simp only [List.length_cons, wide] at hb
    have hn : IntKind.i64.wrap ((done.length : Int) + 1) = ((done.length + 1 : Nat) : Int) := by rw [wrap_i] <;> omega
    have hc : cnt (.slice (.slice SyT2)) (x :: xs) = cnt (.slice SyT2) x + cnt (.slice (.slice SyT2)) xs := by simp [cnt, List.map_cons, List.sum_cons]
    rw [hc] at h1
    simp only [wide] at h1
    have hend := markD_end (.slice SyT2) m x
    have hm := mark_EntryS x m h0 (by simp only [wide]; omega) (by have := (hx x (by simp)).1; exact this)
    have ih := ih (done ++ [(markD (.slice SyT2) m x).1]) (markD (.slice SyT2) m x).2 (by omega) (by rw [hend]; simp only [wide]; omega) (by simp only [List.length_append, List.length_cons, List.length_nil, wide]; omega) (fun y hy => hx y (by simp [hy]))
    have e1 : (done ++ [(markD (.slice SyT2) m x).1]).length = done.length + 1 := by simp
    have e2 : done.length + 1 + xs.length = done.length + (x :: xs).length := by simp; omega
    rw [app_one, app_one, e1, e2] at ih
    rw [loop_eq pr 55 0 _ Tryz.f55 fn_55 _ rfl _ ann_55 _ rfl]
    simp -implicitDefEqProofs only [getD_app, set_app, lt_app, ltn_app, zero_le_cast, Int.toNat_natCast, hn, hm, go_sem]
    exact ih
theorem mark_EntrySS (xs : List (Ty.Den (.slice SyT2))) (m : Int) (h0 : 0 ≤ m) (h1 : m + cnt (.slice (.slice SyT2)) xs ≤ wide) (hb : xs.length ≤ wide) (hx : ∀ x ∈ xs, Bd wide (.slice SyT2) x) : callOf pr 55 [.os (.t 1000000), I m] [(1000000, .arr false true (.slice SyT2) xs)] = some (I (markD (.slice (.slice SyT2)) m xs).2, [(1000000, .arr false true (.slice SyT2) (markD (.slice (.slice SyT2)) m xs).1)]) := by
  have h := markl_EntrySS xs [] m h0 h1 (by rw [List.length_nil, Nat.zero_add]; exact hb) hx
  simp only [List.nil_append, List.length_nil] at h
  have h : loopOf pr 55 0 ⟨[(0, .os (.t 1000000)), (1, I m), (5, I 0)], [(1000000, .arr false true (.slice SyT2) xs)]⟩ = _ := h
  rw [call_eq pr 55 _ _ Tryz.f55 fn_55 _ rfl _ ann_55 rfl]
  simp -implicitDefEqProofs only [h, go_sem]
theorem markn_EntrySS (m : Int) : callOf pr 55 [.nilS, I m] [] = some (I m, []) := by
  have h : loopOf pr 55 0 ⟨[(0, .nilS), (1, I m), (5, I 0)], []⟩ = some (.exit 0, ⟨[(0, .nilS), (1, I m), (5, I 0)], []⟩) := by
    rw [loop_eq pr 55 0 _ Tryz.f55 fn_55 _ rfl _ ann_55 _ rfl]
    simp -implicitDefEqProofs only [Int.lt_irrefl, go_sem]
  rw [call_eq pr 55 _ _ Tryz.f55 fn_55 _ rfl _ ann_55 rfl]
  simp -implicitDefEqProofs only [h, go_sem]

theorem markl_CachedS (xs : List (Ty.Den SyT1)) : ∀ (done : List (Ty.Den SyT1)) (m : Int), 0 ≤ m → m + cnt (.slice SyT1) xs ≤ wide → done.length + xs.length ≤ wide →
    loopOf pr 56 0 ⟨[(0, .os (.t 1000000)), (1, I m), (5, I done.length)], [(1000000, .arr false false SyT1 (done ++ xs))]⟩ = some (.exit 0, ⟨[(0, .os (.t 1000000)), (1, I (markD (.slice SyT1) m xs).2), (5, I ((done.length + xs.length : Nat) : Int))], [(1000000, .arr false false SyT1 (done ++ (markD (.slice SyT1) m xs).1))]⟩) := by
  induction xs with
  | nil =>
    intro done m h0 h1 hb
    rw [loop_eq pr 56 0 _ Tryz.f56 fn_56 _ rfl _ ann_56 _ rfl]
    simp only [markD_slice, markS_nil]
    simp -implicitDefEqProofs only [Int.lt_irrefl, List.append_nil, Nat.add_zero, go_sem]
  | cons x xs ih =>
    intro done m h0 h1 hb
    simp only [List.length_cons, wide] at hb
    have hn : IntKind.i64.wrap ((done.length : Int) + 1) = ((done.length + 1 : Nat) : Int) := by rw [wrap_i] <;> omega
    have hc : cnt (.slice SyT1) (x :: xs) = 3 + cnt (.slice SyT1) xs := by simp [cnt, List.map_cons, List.sum_cons]
    rw [hc] at h1
    simp only [wide] at h1
    have hw0 : IntKind.i64.wrap (m + 1) = m + 1 := by rw [wrap_i] <;> omega
    have hw1 : IntKind.i64.wrap (m + 1 + 1) = m + 1 + 1 := by rw [wrap_i] <;> omega
    have hw2 : IntKind.i64.wrap (m + 1 + 1 + 1) = m + 1 + 1 + 1 := by rw [wrap_i] <;> omega
    have ih := ih (done ++ [(m, (m + 1), (decide (Int.tmod (m + 1 + 1) 3 = 0)), ())]) (m + 1 + 1 + 1) (by omega) (by simp only [wide]; omega) (by simp only [List.length_append, List.length_cons, List.length_nil, wide]; omega)
    have e1 : (done ++ [(m, (m + 1), (decide (Int.tmod (m + 1 + 1) 3 = 0)), ())]).length = done.length + 1 := by simp
    have e2 : done.length + 1 + xs.length = done.length + (x :: xs).length := by simp; omega
    rw [app_one, app_one, e1, e2] at ih
    rw [loop_eq pr 56 0 _ Tryz.f56 fn_56 _ rfl _ ann_56 _ rfl]
    obtain ⟨a0, a1, a2, ⟨⟩⟩ := x
    simp -implicitDefEqProofs only [getD_app, set_app, lt_app, ltn_app, zero_le_cast, Int.toNat_natCast, hn, hw0, hw1, hw2, go_sem]
    exact ih
theorem mark_CachedS (xs : List (Ty.Den SyT1)) (m : Int) (h0 : 0 ≤ m) (h1 : m + cnt (.slice SyT1) xs ≤ wide) (hb : xs.length ≤ wide) : callOf pr 56 [.os (.t 1000000), I m] [(1000000, .arr false false SyT1 xs)] = some (I (markD (.slice SyT1) m xs).2, [(1000000, .arr false false SyT1 (markD (.slice SyT1) m xs).1)]) := by
  have h := markl_CachedS xs [] m h0 h1 (by rw [List.length_nil, Nat.zero_add]; exact hb)
  simp only [List.nil_append, List.length_nil] at h
  have h : loopOf pr 56 0 ⟨[(0, .os (.t 1000000)), (1, I m), (5, I 0)], [(1000000, .arr false false SyT1 xs)]⟩ = _ := h
  rw [call_eq pr 56 _ _ Tryz.f56 fn_56 _ rfl _ ann_56 rfl]
  simp -implicitDefEqProofs only [h, go_sem]
theorem markn_CachedS (m : Int) : callOf pr 56 [.nilS, I m] [] = some (I m, []) := by
  have h : loopOf pr 56 0 ⟨[(0, .nilS), (1, I m), (5, I 0)], []⟩ = some (.exit 0, ⟨[(0, .nilS), (1, I m), (5, I 0)], []⟩) := by
    rw [loop_eq pr 56 0 _ Tryz.f56 fn_56 _ rfl _ ann_56 _ rfl]
    simp -implicitDefEqProofs only [Int.lt_irrefl, go_sem]
  rw [call_eq pr 56 _ _ Tryz.f56 fn_56 _ rfl _ ann_56 rfl]
  simp -implicitDefEqProofs only [h, go_sem]

theorem mark_Space (y0 : Ty.Den (.slice (.int .i64))) (y1 : Ty.Den (.slice (.slice SyT2))) (y2 : Ty.Den (.slice SyT1)) (m : Int) (h0 : 0 ≤ m) (h1 : m + ((cnt (.slice (.int .i64)) y0 + cnt (.slice (.slice SyT2)) y1 + cnt (.slice SyT1) y2 : Nat) : Int) ≤ wide) (by0 : Bd wide (.slice (.int .i64)) y0) (by1 : Bd wide (.slice (.slice SyT2)) y1) (by2 : Bd wide (.slice SyT1) y2) : callOf pr 13 [.agg [.os (.t 1000000), .os (.t 1000001), .os (.t 1000002)], I m] [(1000000, .arr false false (.int .i64) y0), (1000001, .arr false true (.slice SyT2) y1), (1000002, .arr false false SyT1 y2)] = some (I (markD (.slice SyT1) (markD (.slice (.slice SyT2)) (markD (.slice (.int .i64)) m y0).2 y1).2 y2).2, [(1000000, .arr false false (.int .i64) (markD (.slice (.int .i64)) m y0).1), (1000001, .arr false true (.slice SyT2) (markD (.slice (.slice SyT2)) (markD (.slice (.int .i64)) m y0).2 y1).1), (1000002, .arr false false SyT1 (markD (.slice SyT1) (markD (.slice (.slice SyT2)) (markD (.slice (.int .i64)) m y0).2 y1).2 y2).1)]) := by
  simp only [wide] at h1
  have q0 := markD_end (.slice (.int .i64)) m y0
  have q1 := markD_end (.slice (.slice SyT2)) (markD (.slice (.int .i64)) m y0).2 y1
  have q2 := markD_end (.slice SyT1) (markD (.slice (.slice SyT2)) (markD (.slice (.int .i64)) m y0).2 y1).2 y2
  have f0 := mark_Int64S y0 m (by omega) (by simp only [wide]; omega) by0.1
  have f1 := mark_EntrySS y1 (markD (.slice (.int .i64)) m y0).2 (by omega) (by simp only [wide]; omega) by1.1 by1.2
  have f2 := mark_CachedS y2 (markD (.slice (.slice SyT2)) (markD (.slice (.int .i64)) m y0).2 y1).2 (by omega) (by simp only [wide]; omega) by2.1
  rw [call_eq pr 13 _ _ Tryz.f13 fn_13 _ rfl _ ann_13 rfl]
  simp -implicitDefEqProofs only [f0, f1, f2, go_sem]

theorem markn_Space (m : Int) (h0 : 0 ≤ m) : callOf pr 13 [.agg [.nilS, .nilS, .nilS], I m] [] = some (I m, []) := by
  rw [call_eq pr 13 _ _ Tryz.f13 fn_13 _ rfl _ ann_13 rfl]
  simp -implicitDefEqProofs only [markn_Int64S, markn_EntrySS, markn_CachedS, fa (show ¬ m < 0 by omega), go_sem]

theorem heldl_Int64S (xs : List (Ty.Den (.int .i64))) : ∀ (done : List (Ty.Den (.int .i64))) (m : Int), 0 ≤ m → m + cnt (.slice (.int .i64)) xs ≤ wide → done.length + xs.length ≤ wide →
    loopOf pr 23 0 ⟨[(0, .d (.slice (.int .i64)) (done ++ (markD (.slice (.int .i64)) m xs).1)), (1, I m), (5, I done.length)], []⟩ = some (.exit 0, ⟨[(0, .d (.slice (.int .i64)) (done ++ (markD (.slice (.int .i64)) m xs).1)), (1, I (markD (.slice (.int .i64)) m xs).2), (5, I ((done.length + xs.length : Nat) : Int))], []⟩) := by
  induction xs with
  | nil =>
    intro done m h0 h1 hb
    rw [loop_eq pr 23 0 _ Tryz.f23 fn_23 _ rfl _ ann_23 _ rfl]
    simp only [markD_slice, markS_nil]
    simp -implicitDefEqProofs only [Int.lt_irrefl, List.append_nil, Nat.add_zero, go_sem]
  | cons x xs ih =>
    intro done m h0 h1 hb
    simp only [List.length_cons, wide] at hb
    have hn : IntKind.i64.wrap ((done.length : Int) + 1) = ((done.length + 1 : Nat) : Int) := by rw [wrap_i] <;> omega
    have hc : cnt (.slice (.int .i64)) (x :: xs) = 1 + cnt (.slice (.int .i64)) xs := by simp [cnt, List.map_cons, List.sum_cons]
    rw [hc] at h1
    simp only [wide] at h1
    have hw0 : IntKind.i64.wrap (m + 1) = m + 1 := by rw [wrap_i] <;> omega
    have ih := ih (done ++ [m]) (m + 1) (by omega) (by simp only [wide]; omega) (by simp only [List.length_append, List.length_cons, List.length_nil, wide]; omega)
    have e1 : (done ++ [m]).length = done.length + 1 := by simp
    have e2 : done.length + 1 + xs.length = done.length + (x :: xs).length := by simp; omega
    rw [app_one, e1, e2] at ih
    have em : (markD (.slice (.int .i64)) m (x :: xs)) = (m :: (markD (.slice (.int .i64)) (m + 1) xs).1, (markD (.slice (.int .i64)) (m + 1) xs).2) := rfl
    rw [em]
    simp only
    rw [loop_eq pr 23 0 _ Tryz.f23 fn_23 _ rfl _ ann_23 _ rfl]
    simp -implicitDefEqProofs only [getD_app, set_app, lt_app, ltn_app, zero_le_cast, Int.toNat_natCast, hn, BEq.rfl, beq_self_eq_true, decide_true, hw0, go_sem]
    exact ih
theorem held_Int64S (xs : List (Ty.Den (.int .i64))) (m : Int) (h0 : 0 ≤ m) (h1 : m + cnt (.slice (.int .i64)) xs ≤ wide) (hb : xs.length ≤ wide) : callOf pr 23 [.d (.slice (.int .i64)) (markD (.slice (.int .i64)) m xs).1, I m] [] = some (I (markD (.slice (.int .i64)) m xs).2, []) := by
  have h := heldl_Int64S xs [] m h0 h1 (by rw [List.length_nil, Nat.zero_add]; exact hb)
  simp only [List.nil_append, List.length_nil] at h
  have h : loopOf pr 23 0 ⟨[(0, .d (.slice (.int .i64)) (markD (.slice (.int .i64)) m xs).1), (1, I m), (5, I 0)], []⟩ = _ := h
  rw [call_eq pr 23 _ _ Tryz.f23 fn_23 _ rfl _ ann_23 rfl]
  simp -implicitDefEqProofs only [h, go_sem]
theorem heldn_Int64S (m : Int) : callOf pr 23 [.nilS, I m] [] = some (I m, []) := by
  have h : loopOf pr 23 0 ⟨[(0, .nilS), (1, I m), (5, I 0)], []⟩ = some (.exit 0, ⟨[(0, .nilS), (1, I m), (5, I 0)], []⟩) := by
    rw [loop_eq pr 23 0 _ Tryz.f23 fn_23 _ rfl _ ann_23 _ rfl]
    simp -implicitDefEqProofs only [Int.lt_irrefl, go_sem]
  rw [call_eq pr 23 _ _ Tryz.f23 fn_23 _ rfl _ ann_23 rfl]
  simp -implicitDefEqProofs only [h, go_sem]

theorem heldl_EntryS (xs : List (Ty.Den SyT2)) : ∀ (done : List (Ty.Den SyT2)) (m : Int), 0 ≤ m → m + cnt (.slice SyT2) xs ≤ wide → done.length + xs.length ≤ wide →
    loopOf pr 116 0 ⟨[(0, .d (.slice SyT2) (done ++ (markD (.slice SyT2) m xs).1)), (1, I m), (5, I done.length)], []⟩ = some (.exit 0, ⟨[(0, .d (.slice SyT2) (done ++ (markD (.slice SyT2) m xs).1)), (1, I (markD (.slice SyT2) m xs).2), (5, I ((done.length + xs.length : Nat) : Int))], []⟩) := by
  induction xs with
  | nil =>
    intro done m h0 h1 hb
    rw [loop_eq pr 116 0 _ Tryz.f116 fn_116 _ rfl _ ann_116 _ rfl]
    simp only [markD_slice, markS_nil]
    simp -implicitDefEqProofs only [Int.lt_irrefl, List.append_nil, Nat.add_zero, go_sem]
  | cons x xs ih =>
    intro done m h0 h1 hb
    simp only [List.length_cons, wide] at hb
    have hn : IntKind.i64.wrap ((done.length : Int) + 1) = ((done.length + 1 : Nat) : Int) := by rw [wrap_i] <;> omega
    have hc : cnt (.slice SyT2) (x :: xs) = 4 + cnt (.slice SyT2) xs := by simp [cnt, List.map_cons, List.sum_cons]
    rw [hc] at h1
    simp only [wide] at h1
    have hw0 : IntKind.i64.wrap (m + 1) = m + 1 := by rw [wrap_i] <;> omega
    have hw1 : IntKind.i64.wrap (m + 1 + 1) = m + 1 + 1 := by rw [wrap_i] <;> omega
    have hw2 : IntKind.i64.wrap (m + 1 + 1 + 1) = m + 1 + 1 + 1 := by rw [wrap_i] <;> omega
    have hw3 : IntKind.i64.wrap (m + 1 + 1 + 1 + 1) = m + 1 + 1 + 1 + 1 := by rw [wrap_i] <;> omega
    have ih := ih (done ++ [(m, (decide (Int.tmod (m + 1) 3 = 0)), (decide (Int.tmod (m + 1 + 1) 3 = 0)), (decide (Int.tmod (m + 1 + 1 + 1) 3 = 0)), ())]) (m + 1 + 1 + 1 + 1) (by omega) (by simp only [wide]; omega) (by simp only [List.length_append, List.length_cons, List.length_nil, wide]; omega)
    have e1 : (done ++ [(m, (decide (Int.tmod (m + 1) 3 = 0)), (decide (Int.tmod (m + 1 + 1) 3 = 0)), (decide (Int.tmod (m + 1 + 1 + 1) 3 = 0)), ())]).length = done.length + 1 := by simp
    have e2 : done.length + 1 + xs.length = done.length + (x :: xs).length := by simp; omega
    rw [app_one, e1, e2] at ih
    have em : (markD (.slice SyT2) m (x :: xs)) = ((m, (decide (Int.tmod (m + 1) 3 = 0)), (decide (Int.tmod (m + 1 + 1) 3 = 0)), (decide (Int.tmod (m + 1 + 1 + 1) 3 = 0)), ()) :: (markD (.slice SyT2) (m + 1 + 1 + 1 + 1) xs).1, (markD (.slice SyT2) (m + 1 + 1 + 1 + 1) xs).2) := rfl
    rw [em]
    simp only
    rw [loop_eq pr 116 0 _ Tryz.f116 fn_116 _ rfl _ ann_116 _ rfl]
    simp -implicitDefEqProofs only [getD_app, set_app, lt_app, ltn_app, zero_le_cast, Int.toNat_natCast, hn, BEq.rfl, beq_self_eq_true, decide_true, hw0, hw1, hw2, hw3, go_sem]
    exact ih
theorem held_EntryS (xs : List (Ty.Den SyT2)) (m : Int) (h0 : 0 ≤ m) (h1 : m + cnt (.slice SyT2) xs ≤ wide) (hb : xs.length ≤ wide) : callOf pr 116 [.d (.slice SyT2) (markD (.slice SyT2) m xs).1, I m] [] = some (I (markD (.slice SyT2) m xs).2, []) := by
  have h := heldl_EntryS xs [] m h0 h1 (by rw [List.length_nil, Nat.zero_add]; exact hb)
  simp only [List.nil_append, List.length_nil] at h
  have h : loopOf pr 116 0 ⟨[(0, .d (.slice SyT2) (markD (.slice SyT2) m xs).1), (1, I m), (5, I 0)], []⟩ = _ := h
  rw [call_eq pr 116 _ _ Tryz.f116 fn_116 _ rfl _ ann_116 rfl]
  simp -implicitDefEqProofs only [h, go_sem]
theorem heldl_EntrySS (xs : List (Ty.Den (.slice SyT2))) : ∀ (done : List (Ty.Den (.slice SyT2))) (m : Int), 0 ≤ m → m + cnt (.slice (.slice SyT2)) xs ≤ wide → done.length + xs.length ≤ wide → (∀ x ∈ xs, Bd wide (.slice SyT2) x) →
    loopOf pr 57 0 ⟨[(0, .d (.slice (.slice SyT2)) (done ++ (markD (.slice (.slice SyT2)) m xs).1)), (1, I m), (5, I done.length)], []⟩ = some (.exit 0, ⟨[(0, .d (.slice (.slice SyT2)) (done ++ (markD (.slice (.slice SyT2)) m xs).1)), (1, I (markD (.slice (.slice SyT2)) m xs).2), (5, I ((done.length + xs.length : Nat) : Int))], []⟩) := by
  induction xs with
  | nil =>
    intro done m h0 h1 hb hx
    rw [loop_eq pr 57 0 _ Tryz.f57 fn_57 _ rfl _ ann_57 _ rfl]
    simp only [markD_slice, markS_nil]
    simp -implicitDefEqProofs only [Int.lt_irrefl, List.append_nil, Nat.add_zero, go_sem]
  | cons x xs ih =>
    intro done m h0 h1 hb hx
    simp only [List.length_cons, wide] at hb
    have hn : IntKind.i64.wrap ((done.length : Int) + 1) = ((done.length + 1 : Nat) : Int) := by rw [wrap_i] <;> omega
    have hc : cnt (.slice (.slice SyT2)) (x :: xs) = cnt (.slice SyT2) x + cnt (.slice (.slice SyT2)) xs := by simp [cnt, List.map_cons, List.sum_cons]
    rw [hc] at h1
    simp only [wide] at h1
    have hend := markD_end (.slice SyT2) m x
    have hm := held_EntryS x m h0 (by simp only [wide]; omega) (by have := (hx x (by simp)).1; exact this)
    have hneg : ¬ (markD (.slice SyT2) m x).2 < 0 := by rw [hend]; omega
    have ih := ih (done ++ [(markD (.slice SyT2) m x).1]) (markD (.slice SyT2) m x).2 (by omega) (by rw [hend]; simp only [wide]; omega) (by simp only [List.length_append, List.length_cons, List.length_nil, wide]; omega) (fun y hy => hx y (by simp [hy]))
    have e1 : (done ++ [(markD (.slice SyT2) m x).1]).length = done.length + 1 := by simp
    have e2 : done.length + 1 + xs.length = done.length + (x :: xs).length := by simp; omega
    rw [app_one, e1, e2] at ih
    have em : (markD (.slice (.slice SyT2)) m (x :: xs)) = ((markD (.slice SyT2) m x).1 :: (markD (.slice (.slice SyT2)) (markD (.slice SyT2) m x).2 xs).1, (markD (.slice (.slice SyT2)) (markD (.slice SyT2) m x).2 xs).2) := rfl
    rw [em]
    simp only
    rw [loop_eq pr 57 0 _ Tryz.f57 fn_57 _ rfl _ ann_57 _ rfl]
    simp -implicitDefEqProofs only [getD_app, set_app, lt_app, ltn_app, zero_le_cast, Int.toNat_natCast, hn, BEq.rfl, beq_self_eq_true, decide_true, hm, fa hneg, go_sem]
    exact ih
theorem held_EntrySS (xs : List (Ty.Den (.slice SyT2))) (m : Int) (h0 : 0 ≤ m) (h1 : m + cnt (.slice (.slice SyT2)) xs ≤ wide) (hb : xs.length ≤ wide) (hx : ∀ x ∈ xs, Bd wide (.slice SyT2) x) : callOf pr 57 [.d (.slice (.slice SyT2)) (markD (.slice (.slice SyT2)) m xs).1, I m] [] = some (I (markD (.slice (.slice SyT2)) m xs).2, []) := by
  have h := heldl_EntrySS xs [] m h0 h1 (by rw [List.length_nil, Nat.zero_add]; exact hb) hx
  simp only [List.nil_append, List.length_nil] at h
  have h : loopOf pr 57 0 ⟨[(0, .d (.slice (.slice SyT2)) (markD (.slice (.slice SyT2)) m xs).1), (1, I m), (5, I 0)], []⟩ = _ := h
  rw [call_eq pr 57 _ _ Tryz.f57 fn_57 _ rfl _ ann_57 rfl]
  simp -implicitDefEqProofs only [h, go_sem]
theorem heldn_EntrySS (m : Int) : callOf pr 57 [.nilS, I m] [] = some (I m, []) := by
  have h : loopOf pr 57 0 ⟨[(0, .nilS), (1, I m), (5, I 0)], []⟩ = some (.exit 0, ⟨[(0, .nilS), (1, I m), (5, I 0)], []⟩) := by
    rw [loop_eq pr 57 0 _ Tryz.f57 fn_57 _ rfl _ ann_57 _ rfl]
    simp -implicitDefEqProofs only [Int.lt_irrefl, go_sem]
  rw [call_eq pr 57 _ _ Tryz.f57 fn_57 _ rfl _ ann_57 rfl]
  simp -implicitDefEqProofs only [h, go_sem]

theorem heldl_CachedS (xs : List (Ty.Den SyT1)) : ∀ (done : List (Ty.Den SyT1)) (m : Int), 0 ≤ m → m + cnt (.slice SyT1) xs ≤ wide → done.length + xs.length ≤ wide →
    loopOf pr 58 0 ⟨[(0, .d (.slice SyT1) (done ++ (markD (.slice SyT1) m xs).1)), (1, I m), (5, I done.length)], []⟩ = some (.exit 0, ⟨[(0, .d (.slice SyT1) (done ++ (markD (.slice SyT1) m xs).1)), (1, I (markD (.slice SyT1) m xs).2), (5, I ((done.length + xs.length : Nat) : Int))], []⟩) := by
  induction xs with
  | nil =>
    intro done m h0 h1 hb
    rw [loop_eq pr 58 0 _ Tryz.f58 fn_58 _ rfl _ ann_58 _ rfl]
    simp only [markD_slice, markS_nil]
    simp -implicitDefEqProofs only [Int.lt_irrefl, List.append_nil, Nat.add_zero, go_sem]
  | cons x xs ih =>
    intro done m h0 h1 hb
    simp only [List.length_cons, wide] at hb
    have hn : IntKind.i64.wrap ((done.length : Int) + 1) = ((done.length + 1 : Nat) : Int) := by rw [wrap_i] <;> omega
    have hc : cnt (.slice SyT1) (x :: xs) = 3 + cnt (.slice SyT1) xs := by simp [cnt, List.map_cons, List.sum_cons]
    rw [hc] at h1
    simp only [wide] at h1
    have hw0 : IntKind.i64.wrap (m + 1) = m + 1 := by rw [wrap_i] <;> omega
    have hw1 : IntKind.i64.wrap (m + 1 + 1) = m + 1 + 1 := by rw [wrap_i] <;> omega
    have hw2 : IntKind.i64.wrap (m + 1 + 1 + 1) = m + 1 + 1 + 1 := by rw [wrap_i] <;> omega
    have ih := ih (done ++ [(m, (m + 1), (decide (Int.tmod (m + 1 + 1) 3 = 0)), ())]) (m + 1 + 1 + 1) (by omega) (by simp only [wide]; omega) (by simp only [List.length_append, List.length_cons, List.length_nil, wide]; omega)
    have e1 : (done ++ [(m, (m + 1), (decide (Int.tmod (m + 1 + 1) 3 = 0)), ())]).length = done.length + 1 := by simp
    have e2 : done.length + 1 + xs.length = done.length + (x :: xs).length := by simp; omega
    rw [app_one, e1, e2] at ih
    have em : (markD (.slice SyT1) m (x :: xs)) = ((m, (m + 1), (decide (Int.tmod (m + 1 + 1) 3 = 0)), ()) :: (markD (.slice SyT1) (m + 1 + 1 + 1) xs).1, (markD (.slice SyT1) (m + 1 + 1 + 1) xs).2) := rfl
    rw [em]
    simp only
    rw [loop_eq pr 58 0 _ Tryz.f58 fn_58 _ rfl _ ann_58 _ rfl]
    simp -implicitDefEqProofs only [getD_app, set_app, lt_app, ltn_app, zero_le_cast, Int.toNat_natCast, hn, BEq.rfl, beq_self_eq_true, decide_true, hw0, hw1, hw2, go_sem]
    exact ih
theorem held_CachedS (xs : List (Ty.Den SyT1)) (m : Int) (h0 : 0 ≤ m) (h1 : m + cnt (.slice SyT1) xs ≤ wide) (hb : xs.length ≤ wide) : callOf pr 58 [.d (.slice SyT1) (markD (.slice SyT1) m xs).1, I m] [] = some (I (markD (.slice SyT1) m xs).2, []) := by
  have h := heldl_CachedS xs [] m h0 h1 (by rw [List.length_nil, Nat.zero_add]; exact hb)
  simp only [List.nil_append, List.length_nil] at h
  have h : loopOf pr 58 0 ⟨[(0, .d (.slice SyT1) (markD (.slice SyT1) m xs).1), (1, I m), (5, I 0)], []⟩ = _ := h
  rw [call_eq pr 58 _ _ Tryz.f58 fn_58 _ rfl _ ann_58 rfl]
  simp -implicitDefEqProofs only [h, go_sem]
theorem heldn_CachedS (m : Int) : callOf pr 58 [.nilS, I m] [] = some (I m, []) := by
  have h : loopOf pr 58 0 ⟨[(0, .nilS), (1, I m), (5, I 0)], []⟩ = some (.exit 0, ⟨[(0, .nilS), (1, I m), (5, I 0)], []⟩) := by
    rw [loop_eq pr 58 0 _ Tryz.f58 fn_58 _ rfl _ ann_58 _ rfl]
    simp -implicitDefEqProofs only [Int.lt_irrefl, go_sem]
  rw [call_eq pr 58 _ _ Tryz.f58 fn_58 _ rfl _ ann_58 rfl]
  simp -implicitDefEqProofs only [h, go_sem]

theorem heldn_Space (m : Int) (h0 : 0 ≤ m) : callOf pr 14 [.agg [.nilS, .nilS, .nilS], I m] [] = some (I m, []) := by
  rw [call_eq pr 14 _ _ Tryz.f14 fn_14 _ rfl _ ann_14 rfl]
  simp -implicitDefEqProofs only [heldn_Int64S, heldn_EntrySS, heldn_CachedS, fa (show ¬ m < 0 by omega), go_sem]
end Go.Proofs.YtbapbghnageckaaGreat.PI
