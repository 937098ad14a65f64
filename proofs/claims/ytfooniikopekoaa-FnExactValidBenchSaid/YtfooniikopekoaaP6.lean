/- Runs of policies. -/
import Derived.Test.YtfooniikopekoaaP5
namespace Go.Proofs.Ytfooniikopekoaa.PI
open Go Go.Q
set_option maxRecDepth 100000
set_option maxHeartbeats 4000000
set_option linter.unusedSimpArgs false
set_option linter.unusedVariables false
def emptyC (miss : List Int) : List Int := List.replicate miss.length (-1)
theorem loop_sem (hit : List (List Int)) (miss : List Int) (hb : miss.length < 1000000) : ∀ (n k : Nat), k + n = miss.length →
    loopOf pr 55 0 ⟨[(0, .rp [LL hit, L miss]), (3, .os (.t 320)), (4, I k)], [(320, .arr true false (.int .i64) (List.replicate k (-1)))]⟩ = some (.exit 0, ⟨[(0, .rp [LL hit, L miss]), (3, .os (.t 320)), (4, I miss.length)], [(320, .arr true false (.int .i64) (List.replicate miss.length (-1)))]⟩)
  | 0, k, h => by
    have : k = miss.length := by omega
    subst this
    rw [loop_eq pr 55 0 _ Try.f55 fn_55 _ rfl _ ann_55 _ rfl]
    simp -implicitDefEqProofs only [Int.lt_irrefl, go_sem, Nat.reduceAdd, Nat.reduceSub, Nat.reduceMul, Nat.reduceMod, Nat.reduceLT, Nat.reduceLeDiff, Nat.reduceEqDiff, Nat.reduceBEq, Nat.reduceDiv, Int.reduceLT, Int.reduceLE, Int.reduceToNat, Int.reduceNeg, Int.reduceEq, ↓reduceIte, reduceCtorEq, ↓reduceDIte, Bool.false_eq_true, Bool.true_eq_false, ne_eq, not_true_eq_false, not_false_eq_true, Bool.true_or, Bool.false_or, Bool.or_true, Bool.or_false, Bool.true_and, Bool.false_and, Bool.and_true, Bool.and_false, Bool.not_true, Bool.not_false, Bool.not_eq_false', Bool.not_eq_true', and_true, true_and, and_false, false_and, or_true, true_or, or_false, false_or, and_self, or_self, decide_eq_true_eq, decide_true, decide_false, decide_eq_false_iff_not, ite_not, if_true, if_false, eq_self]
  | n + 1, k, h => by
    have hlt : k < miss.length := by omega
    have ih := loop_sem hit miss hb n (k + 1) (by omega)
    rw [List.replicate_succ'] at ih
    have hroom : (((List.replicate k (-1 : Int)).length + 1) * 8 ≤ 140737488355328 ∧ (List.replicate k (-1 : Int)).length ≤ 9223372036854775806) = True := tr (by rw [List.length_replicate]; omega)
    rw [loop_eq pr 55 0 _ Try.f55 fn_55 _ rfl _ ann_55 _ rfl]
    simp -implicitDefEqProofs only [lt_cast hlt, wrap_succ hlt (show miss.length < 1000000000000000000 by omega), hroom, go_sem, Nat.reduceAdd, Nat.reduceSub, Nat.reduceMul, Nat.reduceMod, Nat.reduceLT, Nat.reduceLeDiff, Nat.reduceEqDiff, Nat.reduceBEq, Nat.reduceDiv, Int.reduceLT, Int.reduceLE, Int.reduceToNat, Int.reduceNeg, Int.reduceEq, ↓reduceIte, reduceCtorEq, ↓reduceDIte, Bool.false_eq_true, Bool.true_eq_false, ne_eq, not_true_eq_false, not_false_eq_true, Bool.true_or, Bool.false_or, Bool.or_true, Bool.or_false, Bool.true_and, Bool.false_and, Bool.and_true, Bool.and_false, Bool.not_true, Bool.not_false, Bool.not_eq_false', Bool.not_eq_true', and_true, true_and, and_false, false_and, or_true, true_or, or_false, false_or, and_self, or_self, decide_eq_true_eq, decide_true, decide_false, decide_eq_false_iff_not, ite_not, if_true, if_false, eq_self]
    exact ih
theorem call_sem (hit : List (List Int)) (miss : List Int) (hb : miss.length < 1000000) : callOf pr 55 [.rp [LL hit, L miss]] [] = some (.os (.t 320), [(320, .arr true false (.int .i64) (emptyC miss))]) := by
  have h := loop_sem hit miss hb miss.length 0 (by omega)
  have h : loopOf pr 55 0 ⟨[(0, .rp [LL hit, L miss]), (3, .os (.t 320)), (4, I 0)], [(320, .arr true false (.int .i64) [])]⟩ = _ := h
  rw [call_eq pr 55 _ _ Try.f55 fn_55 _ rfl _ ann_55 rfl]
  simp -implicitDefEqProofs only [h, emptyC, go_sem, Nat.reduceAdd, Nat.reduceSub, Nat.reduceMul, Nat.reduceMod, Nat.reduceLT, Nat.reduceLeDiff, Nat.reduceEqDiff, Nat.reduceBEq, Nat.reduceDiv, Int.reduceLT, Int.reduceLE, Int.reduceToNat, Int.reduceNeg, Int.reduceEq, ↓reduceIte, reduceCtorEq, ↓reduceDIte, Bool.false_eq_true, Bool.true_eq_false, ne_eq, not_true_eq_false, not_false_eq_true, Bool.true_or, Bool.false_or, Bool.or_true, Bool.or_false, Bool.true_and, Bool.false_and, Bool.and_true, Bool.and_false, Bool.not_true, Bool.not_false, Bool.not_eq_false', Bool.not_eq_true', and_true, true_and, and_false, false_and, or_true, true_or, or_false, false_or, and_self, or_self, decide_eq_true_eq, decide_true, decide_false, decide_eq_false_iff_not, ite_not, if_true, if_false, eq_self]
theorem call_iem (hit : List (List Int)) (miss : List Int) (h1 : 1 ≤ miss.length) (h6 : miss.length ≤ 6) : callOf pr 70 [.agg [LL hit, L miss]] [] = some (.os (.t 448), [(448, .arr true false (.int .i64) (emptyC miss))]) := by
  have h := call_rep (miss.length : Int) (by omega)
  have e : List.replicate ((miss.length : Int)).toNat (-1 : Int) = emptyC miss := by simp [emptyC]
  rw [e] at h
  rw [call_eq pr 70 _ _ Try.f70 fn_70 _ rfl _ ann_70 rfl]
  simp -implicitDefEqProofs only [go_sem, Nat.reduceAdd, Nat.reduceSub, Nat.reduceMul, Nat.reduceMod, Nat.reduceLT, Nat.reduceLeDiff, Nat.reduceEqDiff, Nat.reduceBEq, Nat.reduceDiv, Int.reduceLT, Int.reduceLE, Int.reduceToNat, Int.reduceNeg, Int.reduceEq, ↓reduceIte, reduceCtorEq, ↓reduceDIte, Bool.false_eq_true, Bool.true_eq_false, ne_eq, not_true_eq_false, not_false_eq_true, Bool.true_or, Bool.false_or, Bool.or_true, Bool.or_false, Bool.true_and, Bool.false_and, Bool.and_true, Bool.and_false, Bool.not_true, Bool.not_false, Bool.not_eq_false', Bool.not_eq_true', and_true, true_and, and_false, false_and, or_true, true_or, or_false, false_or, and_self, or_self, decide_eq_true_eq, decide_true, decide_false, decide_eq_false_iff_not, ite_not, if_true, if_false, eq_self]
  erw [h]
  simp -implicitDefEqProofs only [go_sem, Nat.reduceAdd, Nat.reduceSub, Nat.reduceMul, Nat.reduceMod, Nat.reduceLT, Nat.reduceLeDiff, Nat.reduceEqDiff, Nat.reduceBEq, Nat.reduceDiv, Int.reduceLT, Int.reduceLE, Int.reduceToNat, Int.reduceNeg, Int.reduceEq, ↓reduceIte, reduceCtorEq, ↓reduceDIte, Bool.false_eq_true, Bool.true_eq_false, ne_eq, not_true_eq_false, not_false_eq_true, Bool.true_or, Bool.false_or, Bool.or_true, Bool.or_false, Bool.true_and, Bool.false_and, Bool.and_true, Bool.and_false, Bool.not_true, Bool.not_false, Bool.not_eq_false', Bool.not_eq_true', and_true, true_and, and_false, false_and, or_true, true_or, or_false, false_or, and_self, or_self, decide_eq_true_eq, decide_true, decide_false, decide_eq_false_iff_not, ite_not, if_true, if_false, eq_self]
/-- A run: 1 for each hit and 0 for each miss, what has been replaced, the contents in the end. -/
def runC (hit : List (List Int)) (miss : List Int) : List Int → List Int → List Int × List Int × List Int
  | now, [] => ([], [], now)
  | now, a :: uses => ((if (stepC hit miss now a).2.2 = true then 1 else 0) :: (runC hit miss (stepC hit miss now a).1 uses).1, (stepC hit miss now a).2.1 :: (runC hit miss (stepC hit miss now a).1 uses).2.1, (runC hit miss (stepC hit miss now a).1 uses).2.2)
theorem runC_length (hit : List (List Int)) (miss : List Int) : ∀ (uses now : List Int), (runC hit miss now uses).1.length = uses.length ∧ (runC hit miss now uses).2.1.length = uses.length
  | [], now => ⟨rfl, rfl⟩
  | a :: uses, now => by
    have := runC_length hit miss uses (stepC hit miss now a).1
    simp [runC, this.1, this.2]
theorem runC_final {hit : List (List Int)} {miss : List Int} (hv : validP hit miss = true) : ∀ (uses now : List Int), now.length = miss.length → (runC hit miss now uses).2.2.length = miss.length
  | [], now, h => h
  | a :: uses, now, h => by
    simp only [runC]
    exact runC_final hv uses _ (stepC_length a hv h)
theorem srun2 (hit : List (List Int)) (miss : List Int) (hv : validP hit miss = true) : ∀ (suf pre now hs : List Int), now.length = miss.length → pre.length + suf.length < 1000000 → hs.length = pre.length →
    loopOf pr 59 0 ⟨[(0, .rp [LL hit, L miss]), (1, L (pre ++ suf)), (6, .os (.t 768)), (7, .os (.t 1792)), (8, I pre.length)], [(768, .arr true false (.int .i64) hs), (1792, .arr true false (.int .i64) now)]⟩ = some (.exit 0, ⟨[(0, .rp [LL hit, L miss]), (1, L (pre ++ suf)), (6, .os (.t 768)), (7, .os (.t 1792)), (8, I ((pre.length + suf.length : Nat) : Int))], [(768, .arr true false (.int .i64) (hs ++ (runC hit miss now suf).1)), (1792, .arr true false (.int .i64) (runC hit miss now suf).2.2)]⟩)
  | [], pre, now, hs, hn, hb, hh => by
    rw [loop_eq pr 59 0 _ Try.f59 fn_59 _ rfl _ ann_59 _ rfl]
    simp -implicitDefEqProofs only [Int.lt_irrefl, List.append_nil, Nat.add_zero, runC, go_sem, Nat.reduceAdd, Nat.reduceSub, Nat.reduceMul, Nat.reduceMod, Nat.reduceLT, Nat.reduceLeDiff, Nat.reduceEqDiff, Nat.reduceBEq, Nat.reduceDiv, Int.reduceLT, Int.reduceLE, Int.reduceToNat, Int.reduceNeg, Int.reduceEq, ↓reduceIte, reduceCtorEq, ↓reduceDIte, Bool.false_eq_true, Bool.true_eq_false, ne_eq, not_true_eq_false, not_false_eq_true, Bool.true_or, Bool.false_or, Bool.or_true, Bool.or_false, Bool.true_and, Bool.false_and, Bool.and_true, Bool.and_false, Bool.not_true, Bool.not_false, Bool.not_eq_false', Bool.not_eq_true', and_true, true_and, and_false, false_and, or_true, true_or, or_false, false_or, and_self, or_self, decide_eq_true_eq, decide_true, decide_false, decide_eq_false_iff_not, ite_not, if_true, if_false, eq_self]
  | a :: suf, pre, now, hs, hn, hb, hh => by
    simp only [List.length_cons] at hb
    have hw : IntKind.i64.wrap ((pre.length : Int) + 1) = ((pre.length + 1 : Nat) : Int) := by rw [wrap_i] <;> omega
    have hs1 := call_sst hit miss now a hv hn
    have hroom : ((hs.length + 1) * 8 ≤ 140737488355328 ∧ hs.length ≤ 9223372036854775806) = True := tr (by omega)
    have ih := srun2 hit miss hv suf (pre ++ [a]) (stepC hit miss now a).1 (hs ++ [if (stepC hit miss now a).2.2 = true then 1 else 0]) (stepC_length a hv hn) (by simp; omega) (by simp [hh])
    have e1 : (pre ++ [a]).length = pre.length + 1 := by simp
    have e2 : pre.length + 1 + suf.length = pre.length + (a :: suf).length := by simp; omega
    rw [app_one, app_one, e1, e2] at ih
    rw [loop_eq pr 59 0 _ Try.f59 fn_59 _ rfl _ ann_59 _ rfl]
    cases hq : (stepC hit miss now a).2.2 with
    | true =>
      rw [hq] at hs1 ih
      simp only [if_true] at ih
      simp -implicitDefEqProofs only [getD_app, lt_app, ltn_app, zero_le_cast, Int.toNat_natCast, hs1, hw, hroom, runC, hq, go_sem, Nat.reduceAdd, Nat.reduceSub, Nat.reduceMul, Nat.reduceMod, Nat.reduceLT, Nat.reduceLeDiff, Nat.reduceEqDiff, Nat.reduceBEq, Nat.reduceDiv, Int.reduceLT, Int.reduceLE, Int.reduceToNat, Int.reduceNeg, Int.reduceEq, ↓reduceIte, reduceCtorEq, ↓reduceDIte, Bool.false_eq_true, Bool.true_eq_false, ne_eq, not_true_eq_false, not_false_eq_true, Bool.true_or, Bool.false_or, Bool.or_true, Bool.or_false, Bool.true_and, Bool.false_and, Bool.and_true, Bool.and_false, Bool.not_true, Bool.not_false, Bool.not_eq_false', Bool.not_eq_true', and_true, true_and, and_false, false_and, or_true, true_or, or_false, false_or, and_self, or_self, decide_eq_true_eq, decide_true, decide_false, decide_eq_false_iff_not, ite_not, if_true, if_false, eq_self]
      exact ih
    | false =>
      rw [hq] at hs1 ih
      simp only [Bool.false_eq_true, if_false] at ih
      simp -implicitDefEqProofs only [getD_app, lt_app, ltn_app, zero_le_cast, Int.toNat_natCast, hs1, hw, hroom, runC, hq, go_sem, Nat.reduceAdd, Nat.reduceSub, Nat.reduceMul, Nat.reduceMod, Nat.reduceLT, Nat.reduceLeDiff, Nat.reduceEqDiff, Nat.reduceBEq, Nat.reduceDiv, Int.reduceLT, Int.reduceLE, Int.reduceToNat, Int.reduceNeg, Int.reduceEq, ↓reduceIte, reduceCtorEq, ↓reduceDIte, Bool.false_eq_true, Bool.true_eq_false, ne_eq, not_true_eq_false, not_false_eq_true, Bool.true_or, Bool.false_or, Bool.or_true, Bool.or_false, Bool.true_and, Bool.false_and, Bool.and_true, Bool.and_false, Bool.not_true, Bool.not_false, Bool.not_eq_false', Bool.not_eq_true', and_true, true_and, and_false, false_and, or_true, true_or, or_false, false_or, and_self, or_self, decide_eq_true_eq, decide_true, decide_false, decide_eq_false_iff_not, ite_not, if_true, if_false, eq_self]
      exact ih
theorem srun1 (hit : List (List Int)) (miss : List Int) (hv : validP hit miss = true) : ∀ (suf pre now hs : List Int), now.length = miss.length → pre.length + suf.length < 1000000 → hs.length = pre.length →
    loopOf pr 59 0 ⟨[(0, .rp [LL hit, L miss]), (1, L (pre ++ suf)), (6, .os (.t 768)), (7, .os (.t 896)), (8, I pre.length)], [(768, .arr true false (.int .i64) hs), (896, .arr true false (.int .i64) now)]⟩ = some (.exit 0, ⟨[(0, .rp [LL hit, L miss]), (1, L (pre ++ suf)), (6, .os (.t 768)), (7, .os (.t (if suf = [] then 896 else 1792))), (8, I ((pre.length + suf.length : Nat) : Int))], [(768, .arr true false (.int .i64) (hs ++ (runC hit miss now suf).1)), ((if suf = [] then 896 else 1792), .arr true false (.int .i64) (runC hit miss now suf).2.2)]⟩)
  | [], pre, now, hs, hn, hb, hh => by
    rw [loop_eq pr 59 0 _ Try.f59 fn_59 _ rfl _ ann_59 _ rfl]
    simp -implicitDefEqProofs only [Int.lt_irrefl, List.append_nil, Nat.add_zero, runC, go_sem, Nat.reduceAdd, Nat.reduceSub, Nat.reduceMul, Nat.reduceMod, Nat.reduceLT, Nat.reduceLeDiff, Nat.reduceEqDiff, Nat.reduceBEq, Nat.reduceDiv, Int.reduceLT, Int.reduceLE, Int.reduceToNat, Int.reduceNeg, Int.reduceEq, ↓reduceIte, reduceCtorEq, ↓reduceDIte, Bool.false_eq_true, Bool.true_eq_false, ne_eq, not_true_eq_false, not_false_eq_true, Bool.true_or, Bool.false_or, Bool.or_true, Bool.or_false, Bool.true_and, Bool.false_and, Bool.and_true, Bool.and_false, Bool.not_true, Bool.not_false, Bool.not_eq_false', Bool.not_eq_true', and_true, true_and, and_false, false_and, or_true, true_or, or_false, false_or, and_self, or_self, decide_eq_true_eq, decide_true, decide_false, decide_eq_false_iff_not, ite_not, if_true, if_false, eq_self]
  | a :: suf, pre, now, hs, hn, hb, hh => by
    simp only [List.length_cons] at hb
    have hw : IntKind.i64.wrap ((pre.length : Int) + 1) = ((pre.length + 1 : Nat) : Int) := by rw [wrap_i] <;> omega
    have hs1 := call_sst hit miss now a hv hn
    have hroom : ((hs.length + 1) * 8 ≤ 140737488355328 ∧ hs.length ≤ 9223372036854775806) = True := tr (by omega)
    have ih := srun2 hit miss hv suf (pre ++ [a]) (stepC hit miss now a).1 (hs ++ [if (stepC hit miss now a).2.2 = true then 1 else 0]) (stepC_length a hv hn) (by simp; omega) (by simp [hh])
    have e1 : (pre ++ [a]).length = pre.length + 1 := by simp
    have e2 : pre.length + 1 + suf.length = pre.length + (a :: suf).length := by simp; omega
    rw [app_one, app_one, e1, e2] at ih
    rw [loop_eq pr 59 0 _ Try.f59 fn_59 _ rfl _ ann_59 _ rfl]
    cases hq : (stepC hit miss now a).2.2 with
    | true =>
      rw [hq] at hs1 ih
      simp only [if_true] at ih
      simp -implicitDefEqProofs only [getD_app, lt_app, ltn_app, zero_le_cast, Int.toNat_natCast, hs1, hw, hroom, runC, hq, go_sem, Nat.reduceAdd, Nat.reduceSub, Nat.reduceMul, Nat.reduceMod, Nat.reduceLT, Nat.reduceLeDiff, Nat.reduceEqDiff, Nat.reduceBEq, Nat.reduceDiv, Int.reduceLT, Int.reduceLE, Int.reduceToNat, Int.reduceNeg, Int.reduceEq, ↓reduceIte, reduceCtorEq, ↓reduceDIte, Bool.false_eq_true, Bool.true_eq_false, ne_eq, not_true_eq_false, not_false_eq_true, Bool.true_or, Bool.false_or, Bool.or_true, Bool.or_false, Bool.true_and, Bool.false_and, Bool.and_true, Bool.and_false, Bool.not_true, Bool.not_false, Bool.not_eq_false', Bool.not_eq_true', and_true, true_and, and_false, false_and, or_true, true_or, or_false, false_or, and_self, or_self, decide_eq_true_eq, decide_true, decide_false, decide_eq_false_iff_not, ite_not, if_true, if_false, eq_self]
      exact ih
    | false =>
      rw [hq] at hs1 ih
      simp only [Bool.false_eq_true, if_false] at ih
      simp -implicitDefEqProofs only [getD_app, lt_app, ltn_app, zero_le_cast, Int.toNat_natCast, hs1, hw, hroom, runC, hq, go_sem, Nat.reduceAdd, Nat.reduceSub, Nat.reduceMul, Nat.reduceMod, Nat.reduceLT, Nat.reduceLeDiff, Nat.reduceEqDiff, Nat.reduceBEq, Nat.reduceDiv, Int.reduceLT, Int.reduceLE, Int.reduceToNat, Int.reduceNeg, Int.reduceEq, ↓reduceIte, reduceCtorEq, ↓reduceDIte, Bool.false_eq_true, Bool.true_eq_false, ne_eq, not_true_eq_false, not_false_eq_true, Bool.true_or, Bool.false_or, Bool.or_true, Bool.or_false, Bool.true_and, Bool.false_and, Bool.and_true, Bool.and_false, Bool.not_true, Bool.not_false, Bool.not_eq_false', Bool.not_eq_true', and_true, true_and, and_false, false_and, or_true, true_or, or_false, false_or, and_self, or_self, decide_eq_true_eq, decide_true, decide_false, decide_eq_false_iff_not, ite_not, if_true, if_false, eq_self]
      exact ih
theorem call_srun (hit : List (List Int)) (miss : List Int) (hv : validP hit miss = true) (uses : List Int) (hb : uses.length < 1000000) : ∃ c, (c = 896 ∨ c = 1792) ∧ callOf pr 59 [.rp [LL hit, L miss], L uses] [] = some (.tuple [.os (.t 768), .os (.t c)], [(768, .arr true false (.int .i64) (runC hit miss (emptyC miss) uses).1), (c, .arr true false (.int .i64) (runC hit miss (emptyC miss) uses).2.2)]) := by
  obtain ⟨v1, v2, v3, v4, v5⟩ := validP_bound hv
  have h1 := call_sem hit miss (by omega)
  have h := srun1 hit miss hv uses [] (emptyC miss) [] (by simp [emptyC]) (by simpa using hb) rfl
  simp only [List.nil_append, List.length_nil] at h
  have h : loopOf pr 59 0 ⟨[(0, .rp [LL hit, L miss]), (1, L uses), (6, .os (.t 768)), (7, .os (.t 896)), (8, I 0)], [(768, .arr true false (.int .i64) []), (896, .arr true false (.int .i64) (emptyC miss))]⟩ = _ := h
  by_cases hu : uses = []
  · refine ⟨896, .inl rfl, ?_⟩
    rw [if_pos hu] at h
    rw [call_eq pr 59 _ _ Try.f59 fn_59 _ rfl _ ann_59 rfl]
    simp -implicitDefEqProofs only [h1, h, go_sem, Nat.reduceAdd, Nat.reduceSub, Nat.reduceMul, Nat.reduceMod, Nat.reduceLT, Nat.reduceLeDiff, Nat.reduceEqDiff, Nat.reduceBEq, Nat.reduceDiv, Int.reduceLT, Int.reduceLE, Int.reduceToNat, Int.reduceNeg, Int.reduceEq, ↓reduceIte, reduceCtorEq, ↓reduceDIte, Bool.false_eq_true, Bool.true_eq_false, ne_eq, not_true_eq_false, not_false_eq_true, Bool.true_or, Bool.false_or, Bool.or_true, Bool.or_false, Bool.true_and, Bool.false_and, Bool.and_true, Bool.and_false, Bool.not_true, Bool.not_false, Bool.not_eq_false', Bool.not_eq_true', and_true, true_and, and_false, false_and, or_true, true_or, or_false, false_or, and_self, or_self, decide_eq_true_eq, decide_true, decide_false, decide_eq_false_iff_not, ite_not, if_true, if_false, eq_self]
  · refine ⟨1792, .inr rfl, ?_⟩
    rw [if_neg hu] at h
    rw [call_eq pr 59 _ _ Try.f59 fn_59 _ rfl _ ann_59 rfl]
    simp -implicitDefEqProofs only [h1, h, go_sem, Nat.reduceAdd, Nat.reduceSub, Nat.reduceMul, Nat.reduceMod, Nat.reduceLT, Nat.reduceLeDiff, Nat.reduceEqDiff, Nat.reduceBEq, Nat.reduceDiv, Int.reduceLT, Int.reduceLE, Int.reduceToNat, Int.reduceNeg, Int.reduceEq, ↓reduceIte, reduceCtorEq, ↓reduceDIte, Bool.false_eq_true, Bool.true_eq_false, ne_eq, not_true_eq_false, not_false_eq_true, Bool.true_or, Bool.false_or, Bool.or_true, Bool.or_false, Bool.true_and, Bool.false_and, Bool.and_true, Bool.and_false, Bool.not_true, Bool.not_false, Bool.not_eq_false', Bool.not_eq_true', and_true, true_and, and_false, false_and, or_true, true_or, or_false, false_or, and_self, or_self, decide_eq_true_eq, decide_true, decide_false, decide_eq_false_iff_not, ite_not, if_true, if_false, eq_self]
theorem irun2 (hit : List (List Int)) (miss : List Int) (hv : validP hit miss = true) (n : Nat) : ∀ (suf pre now hs rs : List Int), now.length = miss.length → n < 1000000 → pre.length + suf.length = n → hs.length = pre.length → rs.length = pre.length →
    loopOf pr 57 0 ⟨[(2, .op 128 0), (7, .os (.t 1920)), (8, .os (.t 1152)), (9, .os (.t 1216)), (20, L (pre ++ suf)), (21, I n), (22, I pre.length)], [(128, .box [LL hit, L miss]), (1152, .arr true false (.int .i64) hs), (1216, .arr true false (.int .i64) rs), (1920, .arr true false (.int .i64) now)]⟩ = some (.exit 0, ⟨[(2, .op 128 0), (7, .os (.t 1920)), (8, .os (.t 1152)), (9, .os (.t 1216)), (20, L (pre ++ suf)), (21, I n), (22, I n)], [(128, .box [LL hit, L miss]), (1152, .arr true false (.int .i64) (hs ++ (runC hit miss now suf).1)), (1216, .arr true false (.int .i64) (rs ++ (runC hit miss now suf).2.1)), (1920, .arr true false (.int .i64) (runC hit miss now suf).2.2)]⟩)
  | [], pre, now, hs, rs, hn, hb, hl, hh, hr => by
    have : n = pre.length := by simp at hl; exact hl.symm
    subst this
    rw [loop_eq pr 57 0 _ Try.f57 fn_57 _ rfl _ ann_57 _ rfl]
    simp -implicitDefEqProofs only [Int.lt_irrefl, List.append_nil, Nat.add_zero, runC, go_sem, Nat.reduceAdd, Nat.reduceSub, Nat.reduceMul, Nat.reduceMod, Nat.reduceLT, Nat.reduceLeDiff, Nat.reduceEqDiff, Nat.reduceBEq, Nat.reduceDiv, Int.reduceLT, Int.reduceLE, Int.reduceToNat, Int.reduceNeg, Int.reduceEq, ↓reduceIte, reduceCtorEq, ↓reduceDIte, Bool.false_eq_true, Bool.true_eq_false, ne_eq, not_true_eq_false, not_false_eq_true, Bool.true_or, Bool.false_or, Bool.or_true, Bool.or_false, Bool.true_and, Bool.false_and, Bool.and_true, Bool.and_false, Bool.not_true, Bool.not_false, Bool.not_eq_false', Bool.not_eq_true', and_true, true_and, and_false, false_and, or_true, true_or, or_false, false_or, and_self, or_self, decide_eq_true_eq, decide_true, decide_false, decide_eq_false_iff_not, ite_not, if_true, if_false, eq_self]
  | a :: suf, pre, now, hs, rs, hn, hb, hl, hh, hr => by
    simp only [List.length_cons] at hl
    have hw : IntKind.i64.wrap ((pre.length : Int) + 1) = ((pre.length + 1 : Nat) : Int) := by rw [wrap_i] <;> omega
    have hlt : ((pre.length : Int) < (n : Int)) = True := tr (by omega)
    have hs1 := call_ist hit miss now a hv hn
    have hroom : ((hs.length + 1) * 8 ≤ 140737488355328 ∧ hs.length ≤ 9223372036854775806) = True := tr (by omega)
    have hroom2 : ((rs.length + 1) * 8 ≤ 140737488355328 ∧ rs.length ≤ 9223372036854775806) = True := tr (by omega)
    have ih := irun2 hit miss hv n suf (pre ++ [a]) (stepC hit miss now a).1 (hs ++ [if (stepC hit miss now a).2.2 = true then 1 else 0]) (rs ++ [(stepC hit miss now a).2.1]) (stepC_length a hv hn) hb (by simp; omega) (by simp [hh]) (by simp [hr])
    have e1 : (pre ++ [a]).length = pre.length + 1 := by simp
    rw [app_one, app_one, app_one, e1] at ih
    rw [loop_eq pr 57 0 _ Try.f57 fn_57 _ rfl _ ann_57 _ rfl]
    cases hq : ageOf a now with
    | some i =>
      have hq1 : stepC hit miss now a = (perm now (hit.getD i []), -1, true) := by simp only [stepC, hq]
      rw [hq] at hs1
      simp only at hs1
      rw [hq1] at ih
      simp only [if_true] at ih
      simp -implicitDefEqProofs only [hlt, getD_app, lt_app, ltn_app, zero_le_cast, Int.toNat_natCast, hs1, hw, hroom, hroom2, runC, hq1, go_sem, Nat.reduceAdd, Nat.reduceSub, Nat.reduceMul, Nat.reduceMod, Nat.reduceLT, Nat.reduceLeDiff, Nat.reduceEqDiff, Nat.reduceBEq, Nat.reduceDiv, Int.reduceLT, Int.reduceLE, Int.reduceToNat, Int.reduceNeg, Int.reduceEq, ↓reduceIte, reduceCtorEq, ↓reduceDIte, Bool.false_eq_true, Bool.true_eq_false, ne_eq, not_true_eq_false, not_false_eq_true, Bool.true_or, Bool.false_or, Bool.or_true, Bool.or_false, Bool.true_and, Bool.false_and, Bool.and_true, Bool.and_false, Bool.not_true, Bool.not_false, Bool.not_eq_false', Bool.not_eq_true', and_true, true_and, and_false, false_and, or_true, true_or, or_false, false_or, and_self, or_self, decide_eq_true_eq, decide_true, decide_false, decide_eq_false_iff_not, ite_not, if_true, if_false, eq_self]
      exact ih
    | none =>
      have hq1 : stepC hit miss now a = (perm (now.set (now.length - 1) a) miss, now.getD (now.length - 1) 0, false) := by simp only [stepC, hq]
      rw [hq] at hs1
      simp only at hs1
      rw [hq1] at ih
      simp only [Bool.false_eq_true, if_false] at ih
      simp -implicitDefEqProofs only [hlt, getD_app, lt_app, ltn_app, zero_le_cast, Int.toNat_natCast, hs1, hw, hroom, hroom2, runC, hq1, go_sem, Nat.reduceAdd, Nat.reduceSub, Nat.reduceMul, Nat.reduceMod, Nat.reduceLT, Nat.reduceLeDiff, Nat.reduceEqDiff, Nat.reduceBEq, Nat.reduceDiv, Int.reduceLT, Int.reduceLE, Int.reduceToNat, Int.reduceNeg, Int.reduceEq, ↓reduceIte, reduceCtorEq, ↓reduceDIte, Bool.false_eq_true, Bool.true_eq_false, ne_eq, not_true_eq_false, not_false_eq_true, Bool.true_or, Bool.false_or, Bool.or_true, Bool.or_false, Bool.true_and, Bool.false_and, Bool.and_true, Bool.and_false, Bool.not_true, Bool.not_false, Bool.not_eq_false', Bool.not_eq_true', and_true, true_and, and_false, false_and, or_true, true_or, or_false, false_or, and_self, or_self, decide_eq_true_eq, decide_true, decide_false, decide_eq_false_iff_not, ite_not, if_true, if_false, eq_self]
      exact ih
theorem irun1 (hit : List (List Int)) (miss : List Int) (hv : validP hit miss = true) (n : Nat) : ∀ (suf pre now hs rs : List Int), now.length = miss.length → n < 1000000 → pre.length + suf.length = n → hs.length = pre.length → rs.length = pre.length → suf ≠ [] →
    loopOf pr 57 0 ⟨[(2, .op 128 0), (7, .os (.t 1088)), (8, .os (.t 1152)), (9, .os (.t 1216)), (20, L (pre ++ suf)), (21, I n), (22, I pre.length)], [(128, .box [LL hit, L miss]), (1088, .arr true false (.int .i64) now), (1152, .arr true false (.int .i64) hs), (1216, .arr true false (.int .i64) rs)]⟩ = some (.exit 0, ⟨[(2, .op 128 0), (7, .os (.t 1920)), (8, .os (.t 1152)), (9, .os (.t 1216)), (20, L (pre ++ suf)), (21, I n), (22, I n)], [(128, .box [LL hit, L miss]), (1152, .arr true false (.int .i64) (hs ++ (runC hit miss now suf).1)), (1216, .arr true false (.int .i64) (rs ++ (runC hit miss now suf).2.1)), (1920, .arr true false (.int .i64) (runC hit miss now suf).2.2)]⟩)
  | [], pre, now, hs, rs, hn, hb, hl, hh, hr, hne => absurd rfl hne
  | a :: suf, pre, now, hs, rs, hn, hb, hl, hh, hr, hne => by
    simp only [List.length_cons] at hl
    have hw : IntKind.i64.wrap ((pre.length : Int) + 1) = ((pre.length + 1 : Nat) : Int) := by rw [wrap_i] <;> omega
    have hlt : ((pre.length : Int) < (n : Int)) = True := tr (by omega)
    have hs1 := call_ist hit miss now a hv hn
    have hroom : ((hs.length + 1) * 8 ≤ 140737488355328 ∧ hs.length ≤ 9223372036854775806) = True := tr (by omega)
    have hroom2 : ((rs.length + 1) * 8 ≤ 140737488355328 ∧ rs.length ≤ 9223372036854775806) = True := tr (by omega)
    have ih := irun2 hit miss hv n suf (pre ++ [a]) (stepC hit miss now a).1 (hs ++ [if (stepC hit miss now a).2.2 = true then 1 else 0]) (rs ++ [(stepC hit miss now a).2.1]) (stepC_length a hv hn) hb (by simp; omega) (by simp [hh]) (by simp [hr])
    have e1 : (pre ++ [a]).length = pre.length + 1 := by simp
    rw [app_one, app_one, app_one, e1] at ih
    rw [loop_eq pr 57 0 _ Try.f57 fn_57 _ rfl _ ann_57 _ rfl]
    cases hq : ageOf a now with
    | some i =>
      have hq1 : stepC hit miss now a = (perm now (hit.getD i []), -1, true) := by simp only [stepC, hq]
      rw [hq] at hs1
      simp only at hs1
      rw [hq1] at ih
      simp only [if_true] at ih
      simp -implicitDefEqProofs only [hlt, getD_app, lt_app, ltn_app, zero_le_cast, Int.toNat_natCast, hs1, hw, hroom, hroom2, runC, hq1, go_sem, Nat.reduceAdd, Nat.reduceSub, Nat.reduceMul, Nat.reduceMod, Nat.reduceLT, Nat.reduceLeDiff, Nat.reduceEqDiff, Nat.reduceBEq, Nat.reduceDiv, Int.reduceLT, Int.reduceLE, Int.reduceToNat, Int.reduceNeg, Int.reduceEq, ↓reduceIte, reduceCtorEq, ↓reduceDIte, Bool.false_eq_true, Bool.true_eq_false, ne_eq, not_true_eq_false, not_false_eq_true, Bool.true_or, Bool.false_or, Bool.or_true, Bool.or_false, Bool.true_and, Bool.false_and, Bool.and_true, Bool.and_false, Bool.not_true, Bool.not_false, Bool.not_eq_false', Bool.not_eq_true', and_true, true_and, and_false, false_and, or_true, true_or, or_false, false_or, and_self, or_self, decide_eq_true_eq, decide_true, decide_false, decide_eq_false_iff_not, ite_not, if_true, if_false, eq_self]
      exact ih
    | none =>
      have hq1 : stepC hit miss now a = (perm (now.set (now.length - 1) a) miss, now.getD (now.length - 1) 0, false) := by simp only [stepC, hq]
      rw [hq] at hs1
      simp only at hs1
      rw [hq1] at ih
      simp only [Bool.false_eq_true, if_false] at ih
      simp -implicitDefEqProofs only [hlt, getD_app, lt_app, ltn_app, zero_le_cast, Int.toNat_natCast, hs1, hw, hroom, hroom2, runC, hq1, go_sem, Nat.reduceAdd, Nat.reduceSub, Nat.reduceMul, Nat.reduceMod, Nat.reduceLT, Nat.reduceLeDiff, Nat.reduceEqDiff, Nat.reduceBEq, Nat.reduceDiv, Int.reduceLT, Int.reduceLE, Int.reduceToNat, Int.reduceNeg, Int.reduceEq, ↓reduceIte, reduceCtorEq, ↓reduceDIte, Bool.false_eq_true, Bool.true_eq_false, ne_eq, not_true_eq_false, not_false_eq_true, Bool.true_or, Bool.false_or, Bool.or_true, Bool.or_false, Bool.true_and, Bool.false_and, Bool.and_true, Bool.and_false, Bool.not_true, Bool.not_false, Bool.not_eq_false', Bool.not_eq_true', and_true, true_and, and_false, false_and, or_true, true_or, or_false, false_or, and_self, or_self, decide_eq_true_eq, decide_true, decide_false, decide_eq_false_iff_not, ite_not, if_true, if_false, eq_self]
      exact ih
theorem call_irun (hit : List (List Int)) (miss : List Int) (hv : validP hit miss = true) (uses : List Int) (hb : uses.length < 1000000) : ∃ c, (c = 1088 ∨ c = 1920) ∧ callOf pr 57 [.agg [LL hit, L miss], L uses] [] = some (.tuple [.os (.t 1152), .os (.t 1216), .os (.t c)],
    if c = 1088 then [(c, .arr true false (.int .i64) (runC hit miss (emptyC miss) uses).2.2), (1152, .arr true false (.int .i64) (runC hit miss (emptyC miss) uses).1), (1216, .arr true false (.int .i64) (runC hit miss (emptyC miss) uses).2.1)]
    else [(1152, .arr true false (.int .i64) (runC hit miss (emptyC miss) uses).1), (1216, .arr true false (.int .i64) (runC hit miss (emptyC miss) uses).2.1), (c, .arr true false (.int .i64) (runC hit miss (emptyC miss) uses).2.2)]) := by
  obtain ⟨v1, v2, v3, v4, v5⟩ := validP_bound hv
  have h1 := call_iem hit miss v1 v2
  by_cases hu : uses = []
  · subst hu
    refine ⟨1088, .inl rfl, ?_⟩
    have h : loopOf pr 57 0 ⟨[(2, .op 128 0), (7, .os (.t 1088)), (8, .os (.t 1152)), (9, .os (.t 1216)), (20, L []), (21, I 0), (22, I 0)], [(128, .box [LL hit, L miss]), (1088, .arr true false (.int .i64) (emptyC miss)), (1152, .arr true false (.int .i64) ([] : List Int)), (1216, .arr true false (.int .i64) ([] : List Int))]⟩ = some (.exit 0, ⟨[(2, .op 128 0), (7, .os (.t 1088)), (8, .os (.t 1152)), (9, .os (.t 1216)), (20, L []), (21, I 0), (22, I 0)], [(128, .box [LL hit, L miss]), (1088, .arr true false (.int .i64) (emptyC miss)), (1152, .arr true false (.int .i64) ([] : List Int)), (1216, .arr true false (.int .i64) ([] : List Int))]⟩) := by
      rw [loop_eq pr 57 0 _ Try.f57 fn_57 _ rfl _ ann_57 _ rfl]
      simp -implicitDefEqProofs only [Int.lt_irrefl, go_sem, Nat.reduceAdd, Nat.reduceSub, Nat.reduceMul, Nat.reduceMod, Nat.reduceLT, Nat.reduceLeDiff, Nat.reduceEqDiff, Nat.reduceBEq, Nat.reduceDiv, Int.reduceLT, Int.reduceLE, Int.reduceToNat, Int.reduceNeg, Int.reduceEq, ↓reduceIte, reduceCtorEq, ↓reduceDIte, Bool.false_eq_true, Bool.true_eq_false, ne_eq, not_true_eq_false, not_false_eq_true, Bool.true_or, Bool.false_or, Bool.or_true, Bool.or_false, Bool.true_and, Bool.false_and, Bool.and_true, Bool.and_false, Bool.not_true, Bool.not_false, Bool.not_eq_false', Bool.not_eq_true', and_true, true_and, and_false, false_and, or_true, true_or, or_false, false_or, and_self, or_self, decide_eq_true_eq, decide_true, decide_false, decide_eq_false_iff_not, ite_not, if_true, if_false, eq_self]
    rw [call_eq pr 57 _ _ Try.f57 fn_57 _ rfl _ ann_57 rfl]
    simp -implicitDefEqProofs only [h1, Int.natCast_zero, h, runC, go_sem, Nat.reduceAdd, Nat.reduceSub, Nat.reduceMul, Nat.reduceMod, Nat.reduceLT, Nat.reduceLeDiff, Nat.reduceEqDiff, Nat.reduceBEq, Nat.reduceDiv, Int.reduceLT, Int.reduceLE, Int.reduceToNat, Int.reduceNeg, Int.reduceEq, ↓reduceIte, reduceCtorEq, ↓reduceDIte, Bool.false_eq_true, Bool.true_eq_false, ne_eq, not_true_eq_false, not_false_eq_true, Bool.true_or, Bool.false_or, Bool.or_true, Bool.or_false, Bool.true_and, Bool.false_and, Bool.and_true, Bool.and_false, Bool.not_true, Bool.not_false, Bool.not_eq_false', Bool.not_eq_true', and_true, true_and, and_false, false_and, or_true, true_or, or_false, false_or, and_self, or_self, decide_eq_true_eq, decide_true, decide_false, decide_eq_false_iff_not, ite_not, if_true, if_false, eq_self]
  · refine ⟨1920, .inr rfl, ?_⟩
    have h := irun1 hit miss hv uses.length uses [] (emptyC miss) [] [] (by simp [emptyC]) hb (by simp) rfl rfl hu
    simp only [List.nil_append, List.length_nil] at h
    have h : loopOf pr 57 0 ⟨[(2, .op 128 0), (7, .os (.t 1088)), (8, .os (.t 1152)), (9, .os (.t 1216)), (20, L uses), (21, I uses.length), (22, I 0)], [(128, .box [LL hit, L miss]), (1088, .arr true false (.int .i64) (emptyC miss)), (1152, .arr true false (.int .i64) []), (1216, .arr true false (.int .i64) [])]⟩ = _ := h
    rw [call_eq pr 57 _ _ Try.f57 fn_57 _ rfl _ ann_57 rfl]
    simp -implicitDefEqProofs only [h1, h, go_sem, Nat.reduceAdd, Nat.reduceSub, Nat.reduceMul, Nat.reduceMod, Nat.reduceLT, Nat.reduceLeDiff, Nat.reduceEqDiff, Nat.reduceBEq, Nat.reduceDiv, Int.reduceLT, Int.reduceLE, Int.reduceToNat, Int.reduceNeg, Int.reduceEq, ↓reduceIte, reduceCtorEq, ↓reduceDIte, Bool.false_eq_true, Bool.true_eq_false, ne_eq, not_true_eq_false, not_false_eq_true, Bool.true_or, Bool.false_or, Bool.or_true, Bool.or_false, Bool.true_and, Bool.false_and, Bool.and_true, Bool.and_false, Bool.not_true, Bool.not_false, Bool.not_eq_false', Bool.not_eq_true', and_true, true_and, and_false, false_and, or_true, true_or, or_false, false_or, and_self, or_self, decide_eq_true_eq, decide_true, decide_false, decide_eq_false_iff_not, ite_not, if_true, if_false, eq_self]
end Go.Proofs.Ytfooniikopekoaa.PI
