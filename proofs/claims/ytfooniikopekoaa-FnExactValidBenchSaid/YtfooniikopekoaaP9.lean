/- Benches. -/
import Derived.Test.YtfooniikopekoaaP8
namespace Go.Proofs.Ytfooniikopekoaa.PI
open Go Go.Q
set_option maxRecDepth 100000
set_option maxHeartbeats 4000000
set_option linter.unusedSimpArgs false
set_option linter.unusedVariables false
abbrev tyA : Ty := .agg (.cons (.int .i64) (.cons (.int .i64) .nil))
abbrev Acc : Type := Int × Int × Unit
abbrev LA (ts : List Acc) : AV := .d (.slice tyA) ts
def kindB (k : Int) : Bool := decide (0 ≤ k ∧ k ≤ 1)
def accB (a : Acc) : Bool := kindB a.1 && addrB a.2.1
def validT (ts : List Acc) : Bool := ts.all accB && decide (ts.length ≤ 60)
theorem call_sk (k : Int) : callOf pr 109 [I k] [] = some (B (kindB k), []) := by
  rw [call_eq pr 109 _ _ Try.f109 fn_109 _ rfl _ ann_109 rfl]
  by_cases k0 : k = 0
  · subst k0
    simp -implicitDefEqProofs only [kindB, go_sem, Nat.reduceAdd, Nat.reduceSub, Nat.reduceMul, Nat.reduceMod, Nat.reduceLT, Nat.reduceLeDiff, Nat.reduceEqDiff, Nat.reduceBEq, Nat.reduceDiv, Int.reduceLT, Int.reduceLE, Int.reduceToNat, Int.reduceNeg, Int.reduceEq, ↓reduceIte, reduceCtorEq, ↓reduceDIte, Bool.false_eq_true, Bool.true_eq_false, ne_eq, not_true_eq_false, not_false_eq_true, Bool.true_or, Bool.false_or, Bool.or_true, Bool.or_false, Bool.true_and, Bool.false_and, Bool.and_true, Bool.and_false, Bool.not_true, Bool.not_false, Bool.not_eq_false', Bool.not_eq_true', and_true, true_and, and_false, false_and, or_true, true_or, or_false, false_or, and_self, or_self, decide_eq_true_eq, decide_true, decide_false, decide_eq_false_iff_not, ite_not, if_true, if_false, eq_self]
  · by_cases k1 : k = 1
    · subst k1
      simp -implicitDefEqProofs only [kindB, go_sem, Nat.reduceAdd, Nat.reduceSub, Nat.reduceMul, Nat.reduceMod, Nat.reduceLT, Nat.reduceLeDiff, Nat.reduceEqDiff, Nat.reduceBEq, Nat.reduceDiv, Int.reduceLT, Int.reduceLE, Int.reduceToNat, Int.reduceNeg, Int.reduceEq, ↓reduceIte, reduceCtorEq, ↓reduceDIte, Bool.false_eq_true, Bool.true_eq_false, ne_eq, not_true_eq_false, not_false_eq_true, Bool.true_or, Bool.false_or, Bool.or_true, Bool.or_false, Bool.true_and, Bool.false_and, Bool.and_true, Bool.and_false, Bool.not_true, Bool.not_false, Bool.not_eq_false', Bool.not_eq_true', and_true, true_and, and_false, false_and, or_true, true_or, or_false, false_or, and_self, or_self, decide_eq_true_eq, decide_true, decide_false, decide_eq_false_iff_not, ite_not, if_true, if_false, eq_self]
    · have hk : kindB k = false := by simp only [kindB, decide_eq_false_iff_not]; omega
      simp -implicitDefEqProofs only [fa k0, fa k1, hk, go_sem, Nat.reduceAdd, Nat.reduceSub, Nat.reduceMul, Nat.reduceMod, Nat.reduceLT, Nat.reduceLeDiff, Nat.reduceEqDiff, Nat.reduceBEq, Nat.reduceDiv, Int.reduceLT, Int.reduceLE, Int.reduceToNat, Int.reduceNeg, Int.reduceEq, ↓reduceIte, reduceCtorEq, ↓reduceDIte, Bool.false_eq_true, Bool.true_eq_false, ne_eq, not_true_eq_false, not_false_eq_true, Bool.true_or, Bool.false_or, Bool.or_true, Bool.or_false, Bool.true_and, Bool.false_and, Bool.and_true, Bool.and_false, Bool.not_true, Bool.not_false, Bool.not_eq_false', Bool.not_eq_true', and_true, true_and, and_false, false_and, or_true, true_or, or_false, false_or, and_self, or_self, decide_eq_true_eq, decide_true, decide_false, decide_eq_false_iff_not, ite_not, if_true, if_false, eq_self]
theorem call_ik (k : Int) : callOf pr 82 [I k] [] = some (B (kindB k), []) := by
  rw [call_eq pr 82 _ _ Try.f82 fn_82 _ rfl _ ann_82 rfl]
  simp -implicitDefEqProofs only [call_100, kindB, go_sem, Nat.reduceAdd, Nat.reduceSub, Nat.reduceMul, Nat.reduceMod, Nat.reduceLT, Nat.reduceLeDiff, Nat.reduceEqDiff, Nat.reduceBEq, Nat.reduceDiv, Int.reduceLT, Int.reduceLE, Int.reduceToNat, Int.reduceNeg, Int.reduceEq, ↓reduceIte, reduceCtorEq, ↓reduceDIte, Bool.false_eq_true, Bool.true_eq_false, ne_eq, not_true_eq_false, not_false_eq_true, Bool.true_or, Bool.false_or, Bool.or_true, Bool.or_false, Bool.true_and, Bool.false_and, Bool.and_true, Bool.and_false, Bool.not_true, Bool.not_false, Bool.not_eq_false', Bool.not_eq_true', and_true, true_and, and_false, false_and, or_true, true_or, or_false, false_or, and_self, or_self, decide_eq_true_eq, decide_true, decide_false, decide_eq_false_iff_not, ite_not, if_true, if_false, eq_self]
theorem call_ia (a : Int) : callOf pr 71 [I a] [] = some (B (addrB a), []) := by
  rw [call_eq pr 71 _ _ Try.f71 fn_71 _ rfl _ ann_71 rfl]
  simp -implicitDefEqProofs only [call_100, addrB, go_sem, Nat.reduceAdd, Nat.reduceSub, Nat.reduceMul, Nat.reduceMod, Nat.reduceLT, Nat.reduceLeDiff, Nat.reduceEqDiff, Nat.reduceBEq, Nat.reduceDiv, Int.reduceLT, Int.reduceLE, Int.reduceToNat, Int.reduceNeg, Int.reduceEq, ↓reduceIte, reduceCtorEq, ↓reduceDIte, Bool.false_eq_true, Bool.true_eq_false, ne_eq, not_true_eq_false, not_false_eq_true, Bool.true_or, Bool.false_or, Bool.or_true, Bool.or_false, Bool.true_and, Bool.false_and, Bool.and_true, Bool.and_false, Bool.not_true, Bool.not_false, Bool.not_eq_false', Bool.not_eq_true', and_true, true_and, and_false, false_and, or_true, true_or, or_false, false_or, and_self, or_self, decide_eq_true_eq, decide_true, decide_false, decide_eq_false_iff_not, ite_not, if_true, if_false, eq_self]
theorem loop_st : ∀ (suf pre : List Acc), pre.length + suf.length < 1000000000000000000 →
    loopOf pr 78 0 ⟨[(0, LA (pre ++ suf)), (3, I pre.length)], []⟩ = if suf.all accB = true then some (.exit 0, ⟨[(0, LA (pre ++ suf)), (3, I ((pre.length + suf.length : Nat) : Int))], []⟩) else some (.ret, ⟨[(2, B false)], []⟩)
  | [], pre, hb => by
    rw [if_pos (by simp), loop_eq pr 78 0 _ Try.f78 fn_78 _ rfl _ ann_78 _ rfl]
    simp -implicitDefEqProofs only [Int.lt_irrefl, List.append_nil, Nat.add_zero, go_sem, Nat.reduceAdd, Nat.reduceSub, Nat.reduceMul, Nat.reduceMod, Nat.reduceLT, Nat.reduceLeDiff, Nat.reduceEqDiff, Nat.reduceBEq, Nat.reduceDiv, Int.reduceLT, Int.reduceLE, Int.reduceToNat, Int.reduceNeg, Int.reduceEq, ↓reduceIte, reduceCtorEq, ↓reduceDIte, Bool.false_eq_true, Bool.true_eq_false, ne_eq, not_true_eq_false, not_false_eq_true, Bool.true_or, Bool.false_or, Bool.or_true, Bool.or_false, Bool.true_and, Bool.false_and, Bool.and_true, Bool.and_false, Bool.not_true, Bool.not_false, Bool.not_eq_false', Bool.not_eq_true', and_true, true_and, and_false, false_and, or_true, true_or, or_false, false_or, and_self, or_self, decide_eq_true_eq, decide_true, decide_false, decide_eq_false_iff_not, ite_not, if_true, if_false, eq_self]
  | (k, a, ()) :: suf, pre, hb => by
    simp only [List.length_cons] at hb
    have hw : IntKind.i64.wrap ((pre.length : Int) + 1) = ((pre.length + 1 : Nat) : Int) := by rw [wrap_i] <;> omega
    have hk := call_sk k
    have ha := call_sa a
    rw [loop_eq pr 78 0 _ Try.f78 fn_78 _ rfl _ ann_78 _ rfl]
    cases ho : kindB k with
    | false =>
      rw [ho] at hk
      rw [if_neg (by simp [accB, ho])]
      simp -implicitDefEqProofs only [getD_app, lt_app, ltn_app, zero_le_cast, Int.toNat_natCast, hk, go_sem, Nat.reduceAdd, Nat.reduceSub, Nat.reduceMul, Nat.reduceMod, Nat.reduceLT, Nat.reduceLeDiff, Nat.reduceEqDiff, Nat.reduceBEq, Nat.reduceDiv, Int.reduceLT, Int.reduceLE, Int.reduceToNat, Int.reduceNeg, Int.reduceEq, ↓reduceIte, reduceCtorEq, ↓reduceDIte, Bool.false_eq_true, Bool.true_eq_false, ne_eq, not_true_eq_false, not_false_eq_true, Bool.true_or, Bool.false_or, Bool.or_true, Bool.or_false, Bool.true_and, Bool.false_and, Bool.and_true, Bool.and_false, Bool.not_true, Bool.not_false, Bool.not_eq_false', Bool.not_eq_true', and_true, true_and, and_false, false_and, or_true, true_or, or_false, false_or, and_self, or_self, decide_eq_true_eq, decide_true, decide_false, decide_eq_false_iff_not, ite_not, if_true, if_false, eq_self]
    | true =>
      rw [ho] at hk
      cases hq : addrB a with
      | false =>
        rw [hq] at ha
        rw [if_neg (by simp [accB, ho, hq])]
        simp -implicitDefEqProofs only [getD_app, lt_app, ltn_app, zero_le_cast, Int.toNat_natCast, hk, ha, go_sem, Nat.reduceAdd, Nat.reduceSub, Nat.reduceMul, Nat.reduceMod, Nat.reduceLT, Nat.reduceLeDiff, Nat.reduceEqDiff, Nat.reduceBEq, Nat.reduceDiv, Int.reduceLT, Int.reduceLE, Int.reduceToNat, Int.reduceNeg, Int.reduceEq, ↓reduceIte, reduceCtorEq, ↓reduceDIte, Bool.false_eq_true, Bool.true_eq_false, ne_eq, not_true_eq_false, not_false_eq_true, Bool.true_or, Bool.false_or, Bool.or_true, Bool.or_false, Bool.true_and, Bool.false_and, Bool.and_true, Bool.and_false, Bool.not_true, Bool.not_false, Bool.not_eq_false', Bool.not_eq_true', and_true, true_and, and_false, false_and, or_true, true_or, or_false, false_or, and_self, or_self, decide_eq_true_eq, decide_true, decide_false, decide_eq_false_iff_not, ite_not, if_true, if_false, eq_self]
      | true =>
        rw [hq] at ha
        have ih := loop_st suf (pre ++ [(k, a, ())]) (by simp; omega)
        have e1 : (pre ++ [(k, a, ())]).length = pre.length + 1 := by simp
        have e2 : pre.length + 1 + suf.length = pre.length + ((k, a, ()) :: suf).length := by simp; omega
        have e3 : ((k, a, ()) :: suf).all accB = suf.all accB := by simp [accB, ho, hq]
        rw [app_one, e1, e2] at ih
        rw [e3]
        simp -implicitDefEqProofs only [getD_app, lt_app, ltn_app, zero_le_cast, Int.toNat_natCast, hk, ha, hw, go_sem, Nat.reduceAdd, Nat.reduceSub, Nat.reduceMul, Nat.reduceMod, Nat.reduceLT, Nat.reduceLeDiff, Nat.reduceEqDiff, Nat.reduceBEq, Nat.reduceDiv, Int.reduceLT, Int.reduceLE, Int.reduceToNat, Int.reduceNeg, Int.reduceEq, ↓reduceIte, reduceCtorEq, ↓reduceDIte, Bool.false_eq_true, Bool.true_eq_false, ne_eq, not_true_eq_false, not_false_eq_true, Bool.true_or, Bool.false_or, Bool.or_true, Bool.or_false, Bool.true_and, Bool.false_and, Bool.and_true, Bool.and_false, Bool.not_true, Bool.not_false, Bool.not_eq_false', Bool.not_eq_true', and_true, true_and, and_false, false_and, or_true, true_or, or_false, false_or, and_self, or_self, decide_eq_true_eq, decide_true, decide_false, decide_eq_false_iff_not, ite_not, if_true, if_false, eq_self]
        exact ih
theorem call_st (xs : List Acc) (hb : xs.length < 1000000000000000000) : callOf pr 78 [LA xs] [] = some (B (validT xs), []) := by
  have h := loop_st xs [] (by simpa using hb)
  simp only [List.nil_append, List.length_nil] at h
  have h : loopOf pr 78 0 ⟨[(0, LA xs), (3, I 0)], []⟩ = _ := h
  rw [call_eq pr 78 _ _ Try.f78 fn_78 _ rfl _ ann_78 rfl]
  cases ho : xs.all accB with
  | true =>
    rw [ho, if_pos rfl] at h
    have hk : validT xs = decide ((xs.length : Int) ≤ 60) := by
      simp only [validT, ho, Bool.true_and]
      rw [decide_eq_decide]; omega
    simp -implicitDefEqProofs only [h, hk, go_sem, Nat.reduceAdd, Nat.reduceSub, Nat.reduceMul, Nat.reduceMod, Nat.reduceLT, Nat.reduceLeDiff, Nat.reduceEqDiff, Nat.reduceBEq, Nat.reduceDiv, Int.reduceLT, Int.reduceLE, Int.reduceToNat, Int.reduceNeg, Int.reduceEq, ↓reduceIte, reduceCtorEq, ↓reduceDIte, Bool.false_eq_true, Bool.true_eq_false, ne_eq, not_true_eq_false, not_false_eq_true, Bool.true_or, Bool.false_or, Bool.or_true, Bool.or_false, Bool.true_and, Bool.false_and, Bool.and_true, Bool.and_false, Bool.not_true, Bool.not_false, Bool.not_eq_false', Bool.not_eq_true', and_true, true_and, and_false, false_and, or_true, true_or, or_false, false_or, and_self, or_self, decide_eq_true_eq, decide_true, decide_false, decide_eq_false_iff_not, ite_not, if_true, if_false, eq_self]
  | false =>
    rw [ho, if_neg (by simp)] at h
    have hk : validT xs = false := by simp only [validT, ho, Bool.false_and]
    simp -implicitDefEqProofs only [h, hk, go_sem, Nat.reduceAdd, Nat.reduceSub, Nat.reduceMul, Nat.reduceMod, Nat.reduceLT, Nat.reduceLeDiff, Nat.reduceEqDiff, Nat.reduceBEq, Nat.reduceDiv, Int.reduceLT, Int.reduceLE, Int.reduceToNat, Int.reduceNeg, Int.reduceEq, ↓reduceIte, reduceCtorEq, ↓reduceDIte, Bool.false_eq_true, Bool.true_eq_false, ne_eq, not_true_eq_false, not_false_eq_true, Bool.true_or, Bool.false_or, Bool.or_true, Bool.or_false, Bool.true_and, Bool.false_and, Bool.and_true, Bool.and_false, Bool.not_true, Bool.not_false, Bool.not_eq_false', Bool.not_eq_true', and_true, true_and, and_false, false_and, or_true, true_or, or_false, false_or, and_self, or_self, decide_eq_true_eq, decide_true, decide_false, decide_eq_false_iff_not, ite_not, if_true, if_false, eq_self]
theorem call_vt1 (k a : Int) : callOf pr 81 [.agg [I k, I a]] [] = some (B (!accB (k, a, ())), []) := by
  have hk := call_ik k
  have ha := call_ia a
  rw [call_eq pr 81 _ _ Try.f81 fn_81 _ rfl _ ann_81 rfl]
  cases ho : kindB k with
  | false =>
    rw [ho] at hk
    simp -implicitDefEqProofs only [hk, accB, ho, go_sem, Nat.reduceAdd, Nat.reduceSub, Nat.reduceMul, Nat.reduceMod, Nat.reduceLT, Nat.reduceLeDiff, Nat.reduceEqDiff, Nat.reduceBEq, Nat.reduceDiv, Int.reduceLT, Int.reduceLE, Int.reduceToNat, Int.reduceNeg, Int.reduceEq, ↓reduceIte, reduceCtorEq, ↓reduceDIte, Bool.false_eq_true, Bool.true_eq_false, ne_eq, not_true_eq_false, not_false_eq_true, Bool.true_or, Bool.false_or, Bool.or_true, Bool.or_false, Bool.true_and, Bool.false_and, Bool.and_true, Bool.and_false, Bool.not_true, Bool.not_false, Bool.not_eq_false', Bool.not_eq_true', and_true, true_and, and_false, false_and, or_true, true_or, or_false, false_or, and_self, or_self, decide_eq_true_eq, decide_true, decide_false, decide_eq_false_iff_not, ite_not, if_true, if_false, eq_self]
  | true =>
    rw [ho] at hk
    simp -implicitDefEqProofs only [hk, ha, accB, ho, go_sem, Nat.reduceAdd, Nat.reduceSub, Nat.reduceMul, Nat.reduceMod, Nat.reduceLT, Nat.reduceLeDiff, Nat.reduceEqDiff, Nat.reduceBEq, Nat.reduceDiv, Int.reduceLT, Int.reduceLE, Int.reduceToNat, Int.reduceNeg, Int.reduceEq, ↓reduceIte, reduceCtorEq, ↓reduceDIte, Bool.false_eq_true, Bool.true_eq_false, ne_eq, not_true_eq_false, not_false_eq_true, Bool.true_or, Bool.false_or, Bool.or_true, Bool.or_false, Bool.true_and, Bool.false_and, Bool.and_true, Bool.and_false, Bool.not_true, Bool.not_false, Bool.not_eq_false', Bool.not_eq_true', and_true, true_and, and_false, false_and, or_true, true_or, or_false, false_or, and_self, or_self, decide_eq_true_eq, decide_true, decide_false, decide_eq_false_iff_not, ite_not, if_true, if_false, eq_self]
theorem loop_ixa : ∀ (suf pre : List Acc), pre.length + suf.length < 1000000000000000000 →
    (suf.all accB = true → loopOf pr 110 0 ⟨[(0, LA (pre ++ suf)), (1, .fn 81 []), (7, I ((pre.length + suf.length : Nat) : Int)), (8, I pre.length)], []⟩ = some (.exit 0, ⟨[(0, LA (pre ++ suf)), (1, .fn 81 []), (7, I ((pre.length + suf.length : Nat) : Int)), (8, I ((pre.length + suf.length : Nat) : Int))], []⟩)) ∧
    (suf.all accB = false → ∃ i : Nat, loopOf pr 110 0 ⟨[(0, LA (pre ++ suf)), (1, .fn 81 []), (7, I ((pre.length + suf.length : Nat) : Int)), (8, I pre.length)], []⟩ = some (.ret, ⟨[(4, I i)], []⟩))
  | [], pre, hb => by
    refine ⟨fun _ => ?_, fun h => by simp at h⟩
    rw [loop_eq pr 110 0 _ Try.f110 fn_110 _ rfl _ ann_110 _ rfl]
    simp -implicitDefEqProofs only [Int.lt_irrefl, List.append_nil, Nat.add_zero, List.length_nil, go_sem, Nat.reduceAdd, Nat.reduceSub, Nat.reduceMul, Nat.reduceMod, Nat.reduceLT, Nat.reduceLeDiff, Nat.reduceEqDiff, Nat.reduceBEq, Nat.reduceDiv, Int.reduceLT, Int.reduceLE, Int.reduceToNat, Int.reduceNeg, Int.reduceEq, ↓reduceIte, reduceCtorEq, ↓reduceDIte, Bool.false_eq_true, Bool.true_eq_false, ne_eq, not_true_eq_false, not_false_eq_true, Bool.true_or, Bool.false_or, Bool.or_true, Bool.or_false, Bool.true_and, Bool.false_and, Bool.and_true, Bool.and_false, Bool.not_true, Bool.not_false, Bool.not_eq_false', Bool.not_eq_true', and_true, true_and, and_false, false_and, or_true, true_or, or_false, false_or, and_self, or_self, decide_eq_true_eq, decide_true, decide_false, decide_eq_false_iff_not, ite_not, if_true, if_false, eq_self]
  | (k, a, ()) :: suf, pre, hb => by
    simp only [List.length_cons] at hb ⊢
    have hw : IntKind.i64.wrap ((pre.length : Int) + 1) = ((pre.length + 1 : Nat) : Int) := by rw [wrap_i] <;> omega
    have hlt : ((pre.length : Int) < ((pre.length + (suf.length + 1) : Nat) : Int)) = True := tr (by omega)
    have h1 := call_vt1 k a
    obtain ⟨i1, i2⟩ := loop_ixa suf (pre ++ [(k, a, ())]) (by simp; omega)
    have e1 : (pre ++ [(k, a, ())]).length = pre.length + 1 := by simp
    have e2 : pre.length + 1 + suf.length = pre.length + (suf.length + 1) := by omega
    rw [app_one, e1, e2] at i1 i2
    cases ho : accB (k, a, ()) with
    | false =>
      rw [ho] at h1
      refine ⟨fun h => by simp [ho] at h, fun _ => ⟨pre.length, ?_⟩⟩
      rw [loop_eq pr 110 0 _ Try.f110 fn_110 _ rfl _ ann_110 _ rfl]
      simp -implicitDefEqProofs only [getD_app, lt_app, ltn_app, zero_le_cast, Int.toNat_natCast, h1, hlt, go_sem, Nat.reduceAdd, Nat.reduceSub, Nat.reduceMul, Nat.reduceMod, Nat.reduceLT, Nat.reduceLeDiff, Nat.reduceEqDiff, Nat.reduceBEq, Nat.reduceDiv, Int.reduceLT, Int.reduceLE, Int.reduceToNat, Int.reduceNeg, Int.reduceEq, ↓reduceIte, reduceCtorEq, ↓reduceDIte, Bool.false_eq_true, Bool.true_eq_false, ne_eq, not_true_eq_false, not_false_eq_true, Bool.true_or, Bool.false_or, Bool.or_true, Bool.or_false, Bool.true_and, Bool.false_and, Bool.and_true, Bool.and_false, Bool.not_true, Bool.not_false, Bool.not_eq_false', Bool.not_eq_true', and_true, true_and, and_false, false_and, or_true, true_or, or_false, false_or, and_self, or_self, decide_eq_true_eq, decide_true, decide_false, decide_eq_false_iff_not, ite_not, if_true, if_false, eq_self]
    | true =>
      rw [ho] at h1
      have e3 : ((k, a, ()) :: suf).all accB = suf.all accB := by simp [ho]
      rw [e3]
      refine ⟨fun h => ?_, fun h => ?_⟩
      · have ih := i1 h
        rw [loop_eq pr 110 0 _ Try.f110 fn_110 _ rfl _ ann_110 _ rfl]
        simp -implicitDefEqProofs only [getD_app, lt_app, ltn_app, zero_le_cast, Int.toNat_natCast, h1, hlt, hw, go_sem, Nat.reduceAdd, Nat.reduceSub, Nat.reduceMul, Nat.reduceMod, Nat.reduceLT, Nat.reduceLeDiff, Nat.reduceEqDiff, Nat.reduceBEq, Nat.reduceDiv, Int.reduceLT, Int.reduceLE, Int.reduceToNat, Int.reduceNeg, Int.reduceEq, ↓reduceIte, reduceCtorEq, ↓reduceDIte, Bool.false_eq_true, Bool.true_eq_false, ne_eq, not_true_eq_false, not_false_eq_true, Bool.true_or, Bool.false_or, Bool.or_true, Bool.or_false, Bool.true_and, Bool.false_and, Bool.and_true, Bool.and_false, Bool.not_true, Bool.not_false, Bool.not_eq_false', Bool.not_eq_true', and_true, true_and, and_false, false_and, or_true, true_or, or_false, false_or, and_self, or_self, decide_eq_true_eq, decide_true, decide_false, decide_eq_false_iff_not, ite_not, if_true, if_false, eq_self]
        exact ih
      · obtain ⟨i, ih⟩ := i2 h
        refine ⟨i, ?_⟩
        rw [loop_eq pr 110 0 _ Try.f110 fn_110 _ rfl _ ann_110 _ rfl]
        simp -implicitDefEqProofs only [getD_app, lt_app, ltn_app, zero_le_cast, Int.toNat_natCast, h1, hlt, hw, go_sem, Nat.reduceAdd, Nat.reduceSub, Nat.reduceMul, Nat.reduceMod, Nat.reduceLT, Nat.reduceLeDiff, Nat.reduceEqDiff, Nat.reduceBEq, Nat.reduceDiv, Int.reduceLT, Int.reduceLE, Int.reduceToNat, Int.reduceNeg, Int.reduceEq, ↓reduceIte, reduceCtorEq, ↓reduceDIte, Bool.false_eq_true, Bool.true_eq_false, ne_eq, not_true_eq_false, not_false_eq_true, Bool.true_or, Bool.false_or, Bool.or_true, Bool.or_false, Bool.true_and, Bool.false_and, Bool.and_true, Bool.and_false, Bool.not_true, Bool.not_false, Bool.not_eq_false', Bool.not_eq_true', and_true, true_and, and_false, false_and, or_true, true_or, or_false, false_or, and_self, or_self, decide_eq_true_eq, decide_true, decide_false, decide_eq_false_iff_not, ite_not, if_true, if_false, eq_self]
        exact ih
theorem call_cfa (xs : List Acc) (hb : xs.length < 1000000000000000000) : callOf pr 80 [LA xs, .fn 81 []] [] = some (B (!xs.all accB), []) := by
  obtain ⟨h1, h2⟩ := loop_ixa xs [] (by simpa using hb)
  simp only [List.nil_append, List.length_nil, Nat.zero_add] at h1 h2
  cases ho : xs.all accB with
  | true =>
    have h : loopOf pr 110 0 ⟨[(0, LA xs), (1, .fn 81 []), (7, I xs.length), (8, I 0)], []⟩ = some (.exit 0, ⟨[(0, LA xs), (1, .fn 81 []), (7, I xs.length), (8, I xs.length)], []⟩) := h1 ho
    have g : callOf pr 110 [LA xs, .fn 81 []] [] = some (I (-1), []) := by
      rw [call_eq pr 110 _ _ Try.f110 fn_110 _ rfl _ ann_110 rfl]
      simp -implicitDefEqProofs only [h, go_sem, Nat.reduceAdd, Nat.reduceSub, Nat.reduceMul, Nat.reduceMod, Nat.reduceLT, Nat.reduceLeDiff, Nat.reduceEqDiff, Nat.reduceBEq, Nat.reduceDiv, Int.reduceLT, Int.reduceLE, Int.reduceToNat, Int.reduceNeg, Int.reduceEq, ↓reduceIte, reduceCtorEq, ↓reduceDIte, Bool.false_eq_true, Bool.true_eq_false, ne_eq, not_true_eq_false, not_false_eq_true, Bool.true_or, Bool.false_or, Bool.or_true, Bool.or_false, Bool.true_and, Bool.false_and, Bool.and_true, Bool.and_false, Bool.not_true, Bool.not_false, Bool.not_eq_false', Bool.not_eq_true', and_true, true_and, and_false, false_and, or_true, true_or, or_false, false_or, and_self, or_self, decide_eq_true_eq, decide_true, decide_false, decide_eq_false_iff_not, ite_not, if_true, if_false, eq_self]
    rw [call_eq pr 80 _ _ Try.f80 fn_80 _ rfl _ ann_80 rfl]
    simp -implicitDefEqProofs only [g, go_sem, Nat.reduceAdd, Nat.reduceSub, Nat.reduceMul, Nat.reduceMod, Nat.reduceLT, Nat.reduceLeDiff, Nat.reduceEqDiff, Nat.reduceBEq, Nat.reduceDiv, Int.reduceLT, Int.reduceLE, Int.reduceToNat, Int.reduceNeg, Int.reduceEq, ↓reduceIte, reduceCtorEq, ↓reduceDIte, Bool.false_eq_true, Bool.true_eq_false, ne_eq, not_true_eq_false, not_false_eq_true, Bool.true_or, Bool.false_or, Bool.or_true, Bool.or_false, Bool.true_and, Bool.false_and, Bool.and_true, Bool.and_false, Bool.not_true, Bool.not_false, Bool.not_eq_false', Bool.not_eq_true', and_true, true_and, and_false, false_and, or_true, true_or, or_false, false_or, and_self, or_self, decide_eq_true_eq, decide_true, decide_false, decide_eq_false_iff_not, ite_not, if_true, if_false, eq_self]
  | false =>
    obtain ⟨i, h⟩ := h2 ho
    have h : loopOf pr 110 0 ⟨[(0, LA xs), (1, .fn 81 []), (7, I xs.length), (8, I 0)], []⟩ = some (.ret, ⟨[(4, I i)], []⟩) := h
    have g : callOf pr 110 [LA xs, .fn 81 []] [] = some (I i, []) := by
      rw [call_eq pr 110 _ _ Try.f110 fn_110 _ rfl _ ann_110 rfl]
      simp -implicitDefEqProofs only [h, go_sem, Nat.reduceAdd, Nat.reduceSub, Nat.reduceMul, Nat.reduceMod, Nat.reduceLT, Nat.reduceLeDiff, Nat.reduceEqDiff, Nat.reduceBEq, Nat.reduceDiv, Int.reduceLT, Int.reduceLE, Int.reduceToNat, Int.reduceNeg, Int.reduceEq, ↓reduceIte, reduceCtorEq, ↓reduceDIte, Bool.false_eq_true, Bool.true_eq_false, ne_eq, not_true_eq_false, not_false_eq_true, Bool.true_or, Bool.false_or, Bool.or_true, Bool.or_false, Bool.true_and, Bool.false_and, Bool.and_true, Bool.and_false, Bool.not_true, Bool.not_false, Bool.not_eq_false', Bool.not_eq_true', and_true, true_and, and_false, false_and, or_true, true_or, or_false, false_or, and_self, or_self, decide_eq_true_eq, decide_true, decide_false, decide_eq_false_iff_not, ite_not, if_true, if_false, eq_self]
    rw [call_eq pr 80 _ _ Try.f80 fn_80 _ rfl _ ann_80 rfl]
    simp -implicitDefEqProofs only [g, zero_le_cast, go_sem, Nat.reduceAdd, Nat.reduceSub, Nat.reduceMul, Nat.reduceMod, Nat.reduceLT, Nat.reduceLeDiff, Nat.reduceEqDiff, Nat.reduceBEq, Nat.reduceDiv, Int.reduceLT, Int.reduceLE, Int.reduceToNat, Int.reduceNeg, Int.reduceEq, ↓reduceIte, reduceCtorEq, ↓reduceDIte, Bool.false_eq_true, Bool.true_eq_false, ne_eq, not_true_eq_false, not_false_eq_true, Bool.true_or, Bool.false_or, Bool.or_true, Bool.or_false, Bool.true_and, Bool.false_and, Bool.and_true, Bool.and_false, Bool.not_true, Bool.not_false, Bool.not_eq_false', Bool.not_eq_true', and_true, true_and, and_false, false_and, or_true, true_or, or_false, false_or, and_self, or_self, decide_eq_true_eq, decide_true, decide_false, decide_eq_false_iff_not, ite_not, if_true, if_false, eq_self]
theorem call_vt (xs : List Acc) (hb : xs.length < 1000000000000000000) : callOf pr 43 [LA xs] [] = some (B (validT xs), []) := by
  have h := call_cfa xs hb
  rw [call_eq pr 43 _ _ Try.f43 fn_43 _ rfl _ ann_43 rfl]
  by_cases g : (xs.length : Int) ≤ 60
  · have hk : validT xs = xs.all accB := by
      have : xs.length ≤ 60 := by omega
      simp [validT, this]
    simp -implicitDefEqProofs only [tr g, h, hk, Bool.not_not, go_sem, Nat.reduceAdd, Nat.reduceSub, Nat.reduceMul, Nat.reduceMod, Nat.reduceLT, Nat.reduceLeDiff, Nat.reduceEqDiff, Nat.reduceBEq, Nat.reduceDiv, Int.reduceLT, Int.reduceLE, Int.reduceToNat, Int.reduceNeg, Int.reduceEq, ↓reduceIte, reduceCtorEq, ↓reduceDIte, Bool.false_eq_true, Bool.true_eq_false, ne_eq, not_true_eq_false, not_false_eq_true, Bool.true_or, Bool.false_or, Bool.or_true, Bool.or_false, Bool.true_and, Bool.false_and, Bool.and_true, Bool.and_false, Bool.not_true, Bool.not_false, Bool.not_eq_false', Bool.not_eq_true', and_true, true_and, and_false, false_and, or_true, true_or, or_false, false_or, and_self, or_self, decide_eq_true_eq, decide_true, decide_false, decide_eq_false_iff_not, ite_not, if_true, if_false, eq_self]
  · have hk : validT xs = false := by
      have : ¬ xs.length ≤ 60 := by omega
      simp [validT, this]
    simp -implicitDefEqProofs only [fa g, hk, go_sem, Nat.reduceAdd, Nat.reduceSub, Nat.reduceMul, Nat.reduceMod, Nat.reduceLT, Nat.reduceLeDiff, Nat.reduceEqDiff, Nat.reduceBEq, Nat.reduceDiv, Int.reduceLT, Int.reduceLE, Int.reduceToNat, Int.reduceNeg, Int.reduceEq, ↓reduceIte, reduceCtorEq, ↓reduceDIte, Bool.false_eq_true, Bool.true_eq_false, ne_eq, not_true_eq_false, not_false_eq_true, Bool.true_or, Bool.false_or, Bool.or_true, Bool.or_false, Bool.true_and, Bool.false_and, Bool.and_true, Bool.and_false, Bool.not_true, Bool.not_false, Bool.not_eq_false', Bool.not_eq_true', and_true, true_and, and_false, false_and, or_true, true_or, or_false, false_or, and_self, or_self, decide_eq_true_eq, decide_true, decide_false, decide_eq_false_iff_not, ite_not, if_true, if_false, eq_self]
def validB (ts : List Acc) (hit : List (List Int)) (miss : List Int) : Bool := validT ts && validP hit miss
theorem call_svb (ts : List Acc) (ha : ts.length < 1000000000000000000) (hit : List (List Int)) (miss : List Int) (h1 : hit.length < 1000000000000000000) (h2 : miss.length < 1000000000000000000) (hc : ∀ l ∈ hit, l.length < 1000000000000000000) : callOf pr 10 [.agg [LA ts, LL hit, L miss]] [] = some (B (validB ts hit miss), []) := by
  have g1 := call_st ts ha
  have g2 := call_is hit miss h1 h2 hc
  have g : callOf pr 41 [.rp [LA ts, LL hit, L miss]] [] = some (B (validB ts hit miss), []) := by
    rw [call_eq pr 41 _ _ Try.f41 fn_41 _ rfl _ ann_41 rfl]
    cases hv : validT ts with
    | false =>
      rw [hv] at g1
      have hk : validB ts hit miss = false := by simp [validB, hv]
      simp -implicitDefEqProofs only [g1, hk, go_sem, Nat.reduceAdd, Nat.reduceSub, Nat.reduceMul, Nat.reduceMod, Nat.reduceLT, Nat.reduceLeDiff, Nat.reduceEqDiff, Nat.reduceBEq, Nat.reduceDiv, Int.reduceLT, Int.reduceLE, Int.reduceToNat, Int.reduceNeg, Int.reduceEq, ↓reduceIte, reduceCtorEq, ↓reduceDIte, Bool.false_eq_true, Bool.true_eq_false, ne_eq, not_true_eq_false, not_false_eq_true, Bool.true_or, Bool.false_or, Bool.or_true, Bool.or_false, Bool.true_and, Bool.false_and, Bool.and_true, Bool.and_false, Bool.not_true, Bool.not_false, Bool.not_eq_false', Bool.not_eq_true', and_true, true_and, and_false, false_and, or_true, true_or, or_false, false_or, and_self, or_self, decide_eq_true_eq, decide_true, decide_false, decide_eq_false_iff_not, ite_not, if_true, if_false, eq_self]
    | true =>
      rw [hv] at g1
      have hk : validB ts hit miss = validP hit miss := by simp [validB, hv]
      simp -implicitDefEqProofs only [g1, g2, hk, go_sem, Nat.reduceAdd, Nat.reduceSub, Nat.reduceMul, Nat.reduceMod, Nat.reduceLT, Nat.reduceLeDiff, Nat.reduceEqDiff, Nat.reduceBEq, Nat.reduceDiv, Int.reduceLT, Int.reduceLE, Int.reduceToNat, Int.reduceNeg, Int.reduceEq, ↓reduceIte, reduceCtorEq, ↓reduceDIte, Bool.false_eq_true, Bool.true_eq_false, ne_eq, not_true_eq_false, not_false_eq_true, Bool.true_or, Bool.false_or, Bool.or_true, Bool.or_false, Bool.true_and, Bool.false_and, Bool.and_true, Bool.and_false, Bool.not_true, Bool.not_false, Bool.not_eq_false', Bool.not_eq_true', and_true, true_and, and_false, false_and, or_true, true_or, or_false, false_or, and_self, or_self, decide_eq_true_eq, decide_true, decide_false, decide_eq_false_iff_not, ite_not, if_true, if_false, eq_self]
  rw [call_eq pr 10 _ _ Try.f10 fn_10 _ rfl _ ann_10 rfl]
  simp -implicitDefEqProofs only [g, go_sem, Nat.reduceAdd, Nat.reduceSub, Nat.reduceMul, Nat.reduceMod, Nat.reduceLT, Nat.reduceLeDiff, Nat.reduceEqDiff, Nat.reduceBEq, Nat.reduceDiv, Int.reduceLT, Int.reduceLE, Int.reduceToNat, Int.reduceNeg, Int.reduceEq, ↓reduceIte, reduceCtorEq, ↓reduceDIte, Bool.false_eq_true, Bool.true_eq_false, ne_eq, not_true_eq_false, not_false_eq_true, Bool.true_or, Bool.false_or, Bool.or_true, Bool.or_false, Bool.true_and, Bool.false_and, Bool.and_true, Bool.and_false, Bool.not_true, Bool.not_false, Bool.not_eq_false', Bool.not_eq_true', and_true, true_and, and_false, false_and, or_true, true_or, or_false, false_or, and_self, or_self, decide_eq_true_eq, decide_true, decide_false, decide_eq_false_iff_not, ite_not, if_true, if_false, eq_self]
theorem call_ivb (ts : List Acc) (ha : ts.length < 1000000000000000000) (hit : List (List Int)) (miss : List Int) (h1 : hit.length < 1000000000000000000) (h2 : miss.length < 1000000000000000000) (hc : ∀ l ∈ hit, l.length < 1000000000000000000) : callOf pr 12 [.agg [LA ts, LL hit, L miss]] [] = some (B (validB ts hit miss), []) := by
  have g1 := call_vt ts ha
  have g2 := call_vp hit miss h1 h2 hc
  rw [call_eq pr 12 _ _ Try.f12 fn_12 _ rfl _ ann_12 rfl]
  cases hv : validT ts with
  | false =>
    rw [hv] at g1
    have hk : validB ts hit miss = false := by simp [validB, hv]
    simp -implicitDefEqProofs only [g1, hk, go_sem, Nat.reduceAdd, Nat.reduceSub, Nat.reduceMul, Nat.reduceMod, Nat.reduceLT, Nat.reduceLeDiff, Nat.reduceEqDiff, Nat.reduceBEq, Nat.reduceDiv, Int.reduceLT, Int.reduceLE, Int.reduceToNat, Int.reduceNeg, Int.reduceEq, ↓reduceIte, reduceCtorEq, ↓reduceDIte, Bool.false_eq_true, Bool.true_eq_false, ne_eq, not_true_eq_false, not_false_eq_true, Bool.true_or, Bool.false_or, Bool.or_true, Bool.or_false, Bool.true_and, Bool.false_and, Bool.and_true, Bool.and_false, Bool.not_true, Bool.not_false, Bool.not_eq_false', Bool.not_eq_true', and_true, true_and, and_false, false_and, or_true, true_or, or_false, false_or, and_self, or_self, decide_eq_true_eq, decide_true, decide_false, decide_eq_false_iff_not, ite_not, if_true, if_false, eq_self]
  | true =>
    rw [hv] at g1
    have hk : validB ts hit miss = validP hit miss := by simp [validB, hv]
    simp -implicitDefEqProofs only [g1, g2, hk, go_sem, Nat.reduceAdd, Nat.reduceSub, Nat.reduceMul, Nat.reduceMod, Nat.reduceLT, Nat.reduceLeDiff, Nat.reduceEqDiff, Nat.reduceBEq, Nat.reduceDiv, Int.reduceLT, Int.reduceLE, Int.reduceToNat, Int.reduceNeg, Int.reduceEq, ↓reduceIte, reduceCtorEq, ↓reduceDIte, Bool.false_eq_true, Bool.true_eq_false, ne_eq, not_true_eq_false, not_false_eq_true, Bool.true_or, Bool.false_or, Bool.or_true, Bool.or_false, Bool.true_and, Bool.false_and, Bool.and_true, Bool.and_false, Bool.not_true, Bool.not_false, Bool.not_eq_false', Bool.not_eq_true', and_true, true_and, and_false, false_and, or_true, true_or, or_false, false_or, and_self, or_self, decide_eq_true_eq, decide_true, decide_false, decide_eq_false_iff_not, ite_not, if_true, if_false, eq_self]
theorem law_bench (ts : List Acc) (hit : List (List Int)) (miss : List Int) (hx : Bd wide (.agg (.cons (.slice tyA) (.cons (.agg (.cons (.slice (.slice (.int .i64))) (.cons (.slice (.int .i64)) .nil))) .nil))) (ts, (hit, miss, ()), ())) : callOf pr 3 [.agg [LA ts, LL hit, L miss]] [] = some (B true, []) := by
  rw [call_eq pr 3 _ _ Try.f3 fn_3 _ rfl _ ann_3 rfl]
  obtain ⟨r0, a0, b0, c0⟩ := sz_Bench (ts, (hit, miss, ()), ()) hx 1048576 (by omega) (by omega)
  have a0 : callOf pr 9 [.agg [LA ts, LL hit, L miss], I 1048576] [] = some (I r0, []) := a0
  by_cases g0 : r0 < 0
  · simp -implicitDefEqProofs only [a0, tr g0, go_sem, Nat.reduceAdd, Nat.reduceSub, Nat.reduceMul, Nat.reduceMod, Nat.reduceLT, Nat.reduceLeDiff, Nat.reduceEqDiff, Nat.reduceBEq, Nat.reduceDiv, Int.reduceLT, Int.reduceLE, Int.reduceToNat, Int.reduceNeg, Int.reduceEq, ↓reduceIte, reduceCtorEq, ↓reduceDIte, Bool.false_eq_true, Bool.true_eq_false, ne_eq, not_true_eq_false, not_false_eq_true, Bool.true_or, Bool.false_or, Bool.or_true, Bool.or_false, Bool.true_and, Bool.false_and, Bool.and_true, Bool.and_false, Bool.not_true, Bool.not_false, Bool.not_eq_false', Bool.not_eq_true', and_true, true_and, and_false, false_and, or_true, true_or, or_false, false_or, and_self, or_self, decide_eq_true_eq, decide_true, decide_false, decide_eq_false_iff_not, ite_not, if_true, if_false, eq_self]
  have hxs := c0 (by omega)
  have hl0 : ts.length ≤ 1048576 := hxs.1.1
  have hl1 : hit.length ≤ 1048576 := hxs.2.1.1.1
  have hl2 : miss.length ≤ 1048576 := hxs.2.1.2.1.1
  have hcl : ∀ l ∈ hit, l.length < 1000000000000000000 := fun l hl => by have : l.length ≤ 1048576 := (hxs.2.1.1.2 l hl).1; omega
  have t1 := to_Bench (ts, (hit, miss, ()), ()) hxs
  have h1 := call_svb ts (by omega) hit miss (by omega) (by omega) hcl
  have h2 := call_ivb ts (by omega) hit miss (by omega) (by omega) hcl
  have e1 := eq_Bench (ts, (hit, miss, ()), ()) hx
  simp only at t1 e1
  simp -implicitDefEqProofs only [a0, fa g0, t1, h1, h2, e1, BEq.rfl, beq_self_eq_true, eq_self_iff_true, go_sem, Nat.reduceAdd, Nat.reduceSub, Nat.reduceMul, Nat.reduceMod, Nat.reduceLT, Nat.reduceLeDiff, Nat.reduceEqDiff, Nat.reduceBEq, Nat.reduceDiv, Int.reduceLT, Int.reduceLE, Int.reduceToNat, Int.reduceNeg, Int.reduceEq, ↓reduceIte, reduceCtorEq, ↓reduceDIte, Bool.false_eq_true, Bool.true_eq_false, ne_eq, not_true_eq_false, not_false_eq_true, Bool.true_or, Bool.false_or, Bool.or_true, Bool.or_false, Bool.true_and, Bool.false_and, Bool.and_true, Bool.and_false, Bool.not_true, Bool.not_false, Bool.not_eq_false', Bool.not_eq_true', and_true, true_and, and_false, false_and, or_true, true_or, or_false, false_or, and_self, or_self, decide_eq_true_eq, decide_true, decide_false, decide_eq_false_iff_not, ite_not, if_true, if_false, eq_self]
end Go.Proofs.Ytfooniikopekoaa.PI
