/- Strings: where a byte is, what is cut, letters. -/
import Derived.Test.YtidodagkfbplaaaE1
import Derived.Test.YtidodagkfbplaaaGQStr
namespace Go.Proofs.Ytidodagkfbplaaa.PI
open Go Go.Q
set_option maxRecDepth 100000
set_option maxHeartbeats 4000000
set_option linter.unusedSimpArgs false

/-- What is ahead of a byte and what is behind it. -/
def cutAt (c : UInt8) : List UInt8 → Option (List UInt8 × List UInt8)
  | [] => none
  | b :: l => if b = c then some ([], l) else (cutAt c l).map fun p => (b :: p.1, p.2)
theorem cutAt_none {c : UInt8} {l : List UInt8} (h : cutAt c l = none) : Lib.indexByte l c = -1 ∧ ¬ c ∈ l := by
  induction l with
  | nil => exact ⟨rfl, by simp⟩
  | cons b l ih =>
    simp only [cutAt] at h
    by_cases hb : b = c
    · rw [if_pos hb] at h; cases h
    · rw [if_neg hb, Option.map_eq_none_iff] at h
      obtain ⟨h1, h2⟩ := ih h
      refine ⟨by simp [Lib.indexByte, hb, h1], fun hm => ?_⟩
      rcases List.mem_cons.1 hm with e | e
      · exact hb e.symm
      · exact h2 e
theorem cutAt_some {c : UInt8} {l x y : List UInt8} (h : cutAt c l = some (x, y)) : l = x ++ c :: y ∧ ¬ c ∈ x ∧ Lib.indexByte l c = (x.length : Int) := by
  induction l generalizing x with
  | nil => cases h
  | cons b l ih =>
    simp only [cutAt] at h
    by_cases hb : b = c
    · rw [if_pos hb] at h
      cases h
      subst hb
      exact ⟨rfl, by simp, by simp [Lib.indexByte]⟩
    · rw [if_neg hb, Option.map_eq_some_iff] at h
      obtain ⟨⟨x', y'⟩, h1, h2⟩ := h
      simp only [Prod.mk.injEq] at h2
      obtain ⟨rfl, rfl⟩ := h2
      obtain ⟨h3, h4, h5⟩ := ih h1
      refine ⟨by rw [h3]; rfl, fun hm => ?_, ?_⟩
      · rcases List.mem_cons.1 hm with e | e
        · exact hb e.symm
        · exact h4 e
      · have : ((x'.length : Int) == -1) = false := by rw [beq_eq_false_iff_ne]; omega
        have hb' : (b == c) = false := by simp [hb]
        simp only [Lib.indexByte, hb', h5, this]
        simp

theorem call_85 (l : List UInt8) (c : Int) : callOf pr 85 [T l, .d (.int .u8) c] [] = some (I (Lib.indexByte l c.toNat.toUInt8), []) := by
  rw [given_eq _ _ _ _ rfl]
  rfl
theorem call_80 (l : List UInt8) (c : UInt8) : callOf pr 80 [T l, T [c]] [] = some (I (Lib.indexByte l c), []) := by
  have h85 := call_85 l (c.toNat : Int)
  have hc : ((c.toNat : Int)).toNat.toUInt8 = c := by simp
  rw [hc] at h85
  rw [call_eq pr 80 _ _ Try.f80 fn_80 _ rfl _ ann_80 rfl]
  by_cases he : [c] = l
  · subst he
    have : Lib.indexByte [c] c = 0 := by simp [Lib.indexByte]
    simp -implicitDefEqProofs only [this, decide_true, go_sem, Nat.reduceAdd, Nat.reduceSub, Nat.reduceMul, Nat.reduceMod, Nat.reduceLT, Nat.reduceLeDiff, Nat.reduceEqDiff, Nat.reduceBEq, Nat.reduceDiv, Int.reduceLT, Int.reduceLE, Int.reduceToNat, Int.reduceNeg, Int.reduceEq, ↓reduceIte, reduceCtorEq, ↓reduceDIte, Bool.false_eq_true, Bool.true_eq_false, ne_eq, not_true_eq_false, not_false_eq_true, Bool.true_or, Bool.false_or, Bool.or_true, Bool.or_false, Bool.true_and, Bool.false_and, Bool.and_true, Bool.and_false, Bool.not_true, Bool.not_false, Bool.not_eq_false', Bool.not_eq_true', and_true, true_and, and_false, false_and, or_true, true_or, or_false, false_or, and_self, or_self, decide_eq_true_eq, decide_true, decide_false, decide_eq_false_iff_not, ite_not, if_true, if_false, eq_self]
  · have he' : decide ([c] = l) = false := by simp [he]
    simp -implicitDefEqProofs only [he', h85, List.getD_cons_zero, go_sem, Nat.reduceAdd, Nat.reduceSub, Nat.reduceMul, Nat.reduceMod, Nat.reduceLT, Nat.reduceLeDiff, Nat.reduceEqDiff, Nat.reduceBEq, Nat.reduceDiv, Int.reduceLT, Int.reduceLE, Int.reduceToNat, Int.reduceNeg, Int.reduceEq, ↓reduceIte, reduceCtorEq, ↓reduceDIte, Bool.false_eq_true, Bool.true_eq_false, ne_eq, not_true_eq_false, not_false_eq_true, Bool.true_or, Bool.false_or, Bool.or_true, Bool.or_false, Bool.true_and, Bool.false_and, Bool.and_true, Bool.and_false, Bool.not_true, Bool.not_false, Bool.not_eq_false', Bool.not_eq_true', and_true, true_and, and_false, false_and, or_true, true_or, or_false, false_or, and_self, or_self, decide_eq_true_eq, decide_true, decide_false, decide_eq_false_iff_not, ite_not, if_true, if_false, eq_self]
theorem call_43 (l : List UInt8) (hl : l.length < 1000000000) (c : UInt8) : callOf pr 43 [T l, T [c]] [] = some (match cutAt c l with | some (x, y) => .tuple [T x, T y, B true] | none => .tuple [T l, T [], B false], []) := by
  have h66 : callOf pr 66 [T l, T [c]] [] = some (match cutAt c l with | some (x, y) => .tuple [T x, T y, B true] | none => .tuple [T l, T [], B false], []) := by
    have h80 := call_80 l c
    rw [call_eq pr 66 _ _ Try.f66 fn_66 _ rfl _ ann_66 rfl]
    cases hc : cutAt c l with
    | none =>
      rw [(cutAt_none hc).1] at h80
      simp -implicitDefEqProofs only [h80, go_sem, Nat.reduceAdd, Nat.reduceSub, Nat.reduceMul, Nat.reduceMod, Nat.reduceLT, Nat.reduceLeDiff, Nat.reduceEqDiff, Nat.reduceBEq, Nat.reduceDiv, Int.reduceLT, Int.reduceLE, Int.reduceToNat, Int.reduceNeg, Int.reduceEq, ↓reduceIte, reduceCtorEq, ↓reduceDIte, Bool.false_eq_true, Bool.true_eq_false, ne_eq, not_true_eq_false, not_false_eq_true, Bool.true_or, Bool.false_or, Bool.or_true, Bool.or_false, Bool.true_and, Bool.false_and, Bool.and_true, Bool.and_false, Bool.not_true, Bool.not_false, Bool.not_eq_false', Bool.not_eq_true', and_true, true_and, and_false, false_and, or_true, true_or, or_false, false_or, and_self, or_self, decide_eq_true_eq, decide_true, decide_false, decide_eq_false_iff_not, ite_not, if_true, if_false, eq_self]
    | some p =>
      obtain ⟨x, y⟩ := p
      obtain ⟨h1, _, h3⟩ := cutAt_some hc
      rw [h3] at h80
      have hlen : l.length = x.length + (y.length + 1) := by rw [h1]; simp
      have hw : IntKind.i64.wrap ((x.length : Int) + 1) = ((x.length + 1 : Nat) : Int) := by rw [wrap_i] <;> omega
      have hx : (l.drop 0).take (x.length - 0) = x := by rw [h1]; simp
      have hy : (l.drop (x.length + 1)).take (l.length - (x.length + 1)) = y := by rw [List.take_of_length_le (by simp)]; rw [h1]; simp
      have e1 : ((x.length : Nat) : Int) ≤ ((l.length : Nat) : Int) := by omega
      have e2 : ((x.length + 1 : Nat) : Int) ≤ ((l.length : Nat) : Int) := by omega
      simp -implicitDefEqProofs only [h80, zero_le_cast, hw, bounds_eq, tr e1, tr e2, Int.le_refl, Int.toNat_natCast, hx, hy, go_sem, Nat.reduceAdd, Nat.reduceSub, Nat.reduceMul, Nat.reduceMod, Nat.reduceLT, Nat.reduceLeDiff, Nat.reduceEqDiff, Nat.reduceBEq, Nat.reduceDiv, Int.reduceLT, Int.reduceLE, Int.reduceToNat, Int.reduceNeg, Int.reduceEq, ↓reduceIte, reduceCtorEq, ↓reduceDIte, Bool.false_eq_true, Bool.true_eq_false, ne_eq, not_true_eq_false, not_false_eq_true, Bool.true_or, Bool.false_or, Bool.or_true, Bool.or_false, Bool.true_and, Bool.false_and, Bool.and_true, Bool.and_false, Bool.not_true, Bool.not_false, Bool.not_eq_false', Bool.not_eq_true', and_true, true_and, and_false, false_and, or_true, true_or, or_false, false_or, and_self, or_self, decide_eq_true_eq, decide_true, decide_false, decide_eq_false_iff_not, ite_not, if_true, if_false, eq_self]
      rw [show List.take (x.length - 0) l = x from by rw [h1]; simp]
  rw [call_eq pr 43 _ _ Try.f43 fn_43 _ rfl _ ann_43 rfl]
  cases hc : cutAt c l with
  | none =>
    rw [hc] at h66
    simp -implicitDefEqProofs only [h66, go_sem, Nat.reduceAdd, Nat.reduceSub, Nat.reduceMul, Nat.reduceMod, Nat.reduceLT, Nat.reduceLeDiff, Nat.reduceEqDiff, Nat.reduceBEq, Nat.reduceDiv, Int.reduceLT, Int.reduceLE, Int.reduceToNat, Int.reduceNeg, Int.reduceEq, ↓reduceIte, reduceCtorEq, ↓reduceDIte, Bool.false_eq_true, Bool.true_eq_false, ne_eq, not_true_eq_false, not_false_eq_true, Bool.true_or, Bool.false_or, Bool.or_true, Bool.or_false, Bool.true_and, Bool.false_and, Bool.and_true, Bool.and_false, Bool.not_true, Bool.not_false, Bool.not_eq_false', Bool.not_eq_true', and_true, true_and, and_false, false_and, or_true, true_or, or_false, false_or, and_self, or_self, decide_eq_true_eq, decide_true, decide_false, decide_eq_false_iff_not, ite_not, if_true, if_false, eq_self]
  | some p =>
    rw [hc] at h66
    simp -implicitDefEqProofs only [h66, go_sem, Nat.reduceAdd, Nat.reduceSub, Nat.reduceMul, Nat.reduceMod, Nat.reduceLT, Nat.reduceLeDiff, Nat.reduceEqDiff, Nat.reduceBEq, Nat.reduceDiv, Int.reduceLT, Int.reduceLE, Int.reduceToNat, Int.reduceNeg, Int.reduceEq, ↓reduceIte, reduceCtorEq, ↓reduceDIte, Bool.false_eq_true, Bool.true_eq_false, ne_eq, not_true_eq_false, not_false_eq_true, Bool.true_or, Bool.false_or, Bool.or_true, Bool.or_false, Bool.true_and, Bool.false_and, Bool.and_true, Bool.and_false, Bool.not_true, Bool.not_false, Bool.not_eq_false', Bool.not_eq_true', and_true, true_and, and_false, false_and, or_true, true_or, or_false, false_or, and_self, or_self, decide_eq_true_eq, decide_true, decide_false, decide_eq_false_iff_not, ite_not, if_true, if_false, eq_self]
end Go.Proofs.Ytidodagkfbplaaa.PI
