/- Strings: what the program recovers. -/
import Derived.Test.YtidodagkfbplaaaS3
namespace Go.Proofs.Ytidodagkfbplaaa.PI
open Go Go.Q
set_option maxRecDepth 100000
set_option maxHeartbeats 4000000
set_option linter.unusedSimpArgs false

theorem linesA_none : ∀ (rem mid : List UInt8), cutAt 10 rem = none → (linesA mid rem).1 = []
  | [], mid, _ => rfl
  | b :: rem, mid, h => by
    simp only [cutAt] at h
    by_cases hb : b = 10
    · rw [if_pos hb] at h; cases h
    · rw [if_neg hb, Option.map_eq_none_iff] at h
      simp only [linesA, if_neg hb]
      exact linesA_none rem _ h
theorem linesA_some : ∀ (rem mid x y : List UInt8), cutAt 10 rem = some (x, y) → (linesA mid rem).1 = (mid ++ x) :: (linesA [] y).1
  | [], mid, x, y, h => by cases h
  | b :: rem, mid, x, y, h => by
    simp only [cutAt] at h
    by_cases hb : b = 10
    · rw [if_pos hb] at h
      cases h
      simp only [linesA, if_pos hb, List.append_nil]
    · rw [if_neg hb, Option.map_eq_some_iff] at h
      obtain ⟨⟨x', y'⟩, h1, h2⟩ := h
      simp only [Prod.mk.injEq] at h2
      obtain ⟨rfl, rfl⟩ := h2
      simp only [linesA, if_neg hb]
      rw [linesA_some rem _ _ _ h1]
      simp
theorem cutAt_app (c : UInt8) (r : List UInt8) : ∀ a : List UInt8, ¬ c ∈ a → cutAt c (a ++ c :: r) = some (a, r)
  | [], _ => by simp [cutAt]
  | b :: a, h => by
    have hb : ¬ b = c := fun e => h (by simp [e])
    have ih := cutAt_app c r a (fun e => h (by simp [e]))
    simp only [List.cons_append, cutAt, if_neg hb, ih, Option.map_some]
theorem letters_no (l : List UInt8) : ¬ (32 : UInt8) ∈ letters l := by
  have h1 := letN_lt l 1 (by omega)
  have ha : ∀ n, n < 26 → ¬ (32 : UInt8) = UInt8.ofNat (97 + n) := by
    intro n hn e
    have := congrArg UInt8.toNat e
    rw [UInt8.toNat_ofNat_of_lt' (by show 97 + n < 256; omega)] at this
    have h32 : (32 : UInt8).toNat = 32 := rfl
    omega
  simp only [letters, List.mem_cons, List.not_mem_nil, or_false, not_or]
  exact ⟨ha _ (by omega), ha _ (Nat.mod_lt _ (by omega))⟩
theorem letters_length (l : List UInt8) : (letters l).length = 2 := rfl
/-- A line that the program takes is one that the reference takes. -/
theorem line_ok {prev x c r : List UInt8} (hc : cutAt 32 x = some (c, r)) : (letters (prev ++ r) ++ [32] ++ r = x) ↔ okLine prev x = true := by
  constructor
  · intro h
    have h1 : x.drop 3 = r := by rw [← h]; simp [letters]
    have h2 : x.take 2 = letters (prev ++ r) := by rw [← h]; simp [letters]
    have h3 : x.getD 2 0 = 32 := by rw [← h]; simp [letters]
    have h4 : 3 ≤ x.length := by rw [← h]; simp [letters]
    simp only [okLine, h1, h2, h3, h4, decide_true, Bool.and_self]
  · intro h
    simp only [okLine, Bool.and_eq_true, decide_eq_true_eq] at h
    obtain ⟨h1, h2, h3⟩ := h
    have hx : x = x.take 2 ++ 32 :: x.drop 3 := by
      conv => lhs; rw [← List.take_append_drop 2 x]
      congr 1
      rw [List.drop_eq_getElem_cons (by omega)]
      rw [getD_of_lt (by omega)] at h2
      rw [h2]
    have hno := letters_no (prev ++ x.drop 3)
    rw [h3] at hno
    have := cutAt_app 32 (x.drop 3) (x.take 2) hno
    rw [← hx, hc] at this
    simp only [Option.some.injEq, Prod.mk.injEq] at this
    obtain ⟨rfl, rfl⟩ := this
    rw [h3, List.append_assoc]
    exact hx.symm
theorem line_no {prev x : List UInt8} (hc : cutAt 32 x = none) : ¬ okLine prev x = true := by
  intro h
  simp only [okLine, Bool.and_eq_true, decide_eq_true_eq] at h
  obtain ⟨h1, h2, _⟩ := h
  rw [getD_of_lt (by omega)] at h2
  exact (cutAt_none hc).2 (by rw [← h2]; exact List.getElem_mem _)

theorem loop_15 (l : List UInt8) (hl : l.length < 1000000) : ∀ (k : Nat) (rem pre : List UInt8) (prev : List UInt8) (out : List (List UInt8)), rem.length < k → l = pre ++ rem → prev.length < 1000 → out.length ≤ pre.length →
    loopOf pr 15 0 ⟨[(0, T l), (5, .os (.t 1152)), (6, I pre.length), (7, T prev)], [(1152, .arr true false .str (out.map mkS))]⟩ = some (.ret, ⟨[(2, .os (.t 1152)), (3, I ((pre.length + (recS prev (linesA [] rem).1).2 : Nat) : Int)), (4, B true)], [(1152, .arr true false .str ((out ++ (recS prev (linesA [] rem).1).1).map mkS))]⟩)
  | 0, _, _, _, _, h, _, _, _ => by omega
  | k + 1, rem, pre, prev, out, hk, h, hpv, ho => by
    have hp : l.length = pre.length + rem.length := by rw [h]; simp
    have hsl : (l.drop pre.length).take (l.length - pre.length) = rem := by rw [List.take_of_length_le (by simp)]; rw [h]; simp
    have hle : (pre.length : Int) ≤ (l.length : Int) := by omega
    have h43 := call_43 rem (by omega) 10
    rw [loop_eq pr 15 0 _ Try.f15 fn_15 _ rfl _ ann_15 _ rfl]
    cases hc : cutAt 10 rem with
    | none =>
      rw [hc] at h43
      have h43b := call_43 rem (by omega) 32
      have e1 : (linesA [] rem).1 = [] := linesA_none rem [] hc
      cases hc2 : cutAt 32 rem with
      | none =>
        rw [hc2] at h43b
        have h44 := call_44 prev (by omega)
        have hsz : ¬ 9223372036854775807 < ((prev.length + 0 : Nat) : Int) := by omega
        simp -implicitDefEqProofs only [zero_le_cast, bounds_eq, tr hle, Int.le_refl, Int.toNat_natCast, hsl, h43, h43b, h44, gt_iff_lt, fa hsz, go_sem, Nat.reduceAdd, Nat.reduceSub, Nat.reduceMul, Nat.reduceMod, Nat.reduceLT, Nat.reduceLeDiff, Nat.reduceEqDiff, Nat.reduceBEq, Nat.reduceDiv, Int.reduceLT, Int.reduceLE, Int.reduceToNat, Int.reduceNeg, Int.reduceEq, ↓reduceIte, reduceCtorEq, ↓reduceDIte, Bool.false_eq_true, Bool.true_eq_false, ne_eq, not_true_eq_false, not_false_eq_true, Bool.true_or, Bool.false_or, Bool.or_true, Bool.or_false, Bool.true_and, Bool.false_and, Bool.and_true, Bool.and_false, Bool.not_true, Bool.not_false, Bool.not_eq_false', Bool.not_eq_true', and_true, true_and, and_false, false_and, or_true, true_or, or_false, false_or, and_self, or_self, decide_eq_true_eq, decide_true, decide_false, decide_eq_false_iff_not, ite_not, if_true, if_false, eq_self]
        simp [recS, e1]
      | some p =>
        obtain ⟨c, r⟩ := p
        rw [hc2] at h43b
        obtain ⟨hx, _, _⟩ := cutAt_some hc2
        have hr : r.length < rem.length := by rw [hx]; simp; omega
        have h44 := call_44 (prev ++ r) (by simp; omega)
        have hsz : ¬ 9223372036854775807 < ((prev.length + r.length : Nat) : Int) := by omega
        simp -implicitDefEqProofs only [zero_le_cast, bounds_eq, tr hle, Int.le_refl, Int.toNat_natCast, hsl, h43, h43b, h44, gt_iff_lt, fa hsz, go_sem, Nat.reduceAdd, Nat.reduceSub, Nat.reduceMul, Nat.reduceMod, Nat.reduceLT, Nat.reduceLeDiff, Nat.reduceEqDiff, Nat.reduceBEq, Nat.reduceDiv, Int.reduceLT, Int.reduceLE, Int.reduceToNat, Int.reduceNeg, Int.reduceEq, ↓reduceIte, reduceCtorEq, ↓reduceDIte, Bool.false_eq_true, Bool.true_eq_false, ne_eq, not_true_eq_false, not_false_eq_true, Bool.true_or, Bool.false_or, Bool.or_true, Bool.or_false, Bool.true_and, Bool.false_and, Bool.and_true, Bool.and_false, Bool.not_true, Bool.not_false, Bool.not_eq_false', Bool.not_eq_true', and_true, true_and, and_false, false_and, or_true, true_or, or_false, false_or, and_self, or_self, decide_eq_true_eq, decide_true, decide_false, decide_eq_false_iff_not, ite_not, if_true, if_false, eq_self]
        simp [recS, e1]
    | some p =>
      obtain ⟨x, y⟩ := p
      rw [hc] at h43
      obtain ⟨hx, _, _⟩ := cutAt_some hc
      have hxy : rem.length = x.length + (y.length + 1) := by rw [hx]; simp
      have h43b := call_43 x (by omega) 32
      have e1 : (linesA [] rem).1 = x :: (linesA [] y).1 := linesA_some rem [] x y hc
      cases hc2 : cutAt 32 x with
      | none =>
        rw [hc2] at h43b
        have h44 := call_44 prev (by omega)
        have hsz : ¬ 9223372036854775807 < ((prev.length + 0 : Nat) : Int) := by omega
        have hno := line_no (prev := prev) hc2
        simp -implicitDefEqProofs only [zero_le_cast, bounds_eq, tr hle, Int.le_refl, Int.toNat_natCast, hsl, h43, h43b, h44, gt_iff_lt, fa hsz, go_sem, Nat.reduceAdd, Nat.reduceSub, Nat.reduceMul, Nat.reduceMod, Nat.reduceLT, Nat.reduceLeDiff, Nat.reduceEqDiff, Nat.reduceBEq, Nat.reduceDiv, Int.reduceLT, Int.reduceLE, Int.reduceToNat, Int.reduceNeg, Int.reduceEq, ↓reduceIte, reduceCtorEq, ↓reduceDIte, Bool.false_eq_true, Bool.true_eq_false, ne_eq, not_true_eq_false, not_false_eq_true, Bool.true_or, Bool.false_or, Bool.or_true, Bool.or_false, Bool.true_and, Bool.false_and, Bool.and_true, Bool.and_false, Bool.not_true, Bool.not_false, Bool.not_eq_false', Bool.not_eq_true', and_true, true_and, and_false, false_and, or_true, true_or, or_false, false_or, and_self, or_self, decide_eq_true_eq, decide_true, decide_false, decide_eq_false_iff_not, ite_not, if_true, if_false, eq_self]
        simp [recS, e1, hno]
      | some p =>
        obtain ⟨c, r⟩ := p
        rw [hc2] at h43b
        obtain ⟨hx2, _, _⟩ := cutAt_some hc2
        have hr : r.length < x.length := by rw [hx2]; simp; omega
        have h44 := call_44 (prev ++ r) (by simp; omega)
        have hsz : ¬ 9223372036854775807 < ((prev.length + r.length : Nat) : Int) := by omega
        have hll := letters_length (prev ++ r)
        have hsz2 : ¬ 9223372036854775807 < (((letters (prev ++ r)).length + 1 : Nat) : Int) := by omega
        have hsz3 : ¬ 9223372036854775807 < (((letters (prev ++ r) ++ [32]).length + r.length : Nat) : Int) := by simp [hll]; omega
        by_cases hok : letters (prev ++ r) ++ [32] ++ r = x
        · have hyes := (line_ok hc2).1 hok
          have h1 : x.drop 3 = r := by rw [← hok]; simp [letters]
          have h2 : x.take 2 = letters (prev ++ r) := by rw [← hok]; simp [letters]
          have ih := loop_15 l hl k y (pre ++ x ++ [10]) (letters (prev ++ r)) (out ++ [r]) (by omega) (by rw [h, hx]; simp) (by rw [letters_length]; omega) (by simp; omega)
          have e2 : (pre ++ x ++ [10]).length = pre.length + (x.length + 1) := by simp
          have e3 : out ++ [r] ++ (recS (letters (prev ++ r)) (linesA [] y).1).1 = out ++ (recS prev (linesA [] rem).1).1 := by rw [e1]; simp only [recS, hyes, if_true, h1, h2]; simp
          have e4 : pre.length + (x.length + 1) + (recS (letters (prev ++ r)) (linesA [] y).1).2 = pre.length + (recS prev (linesA [] rem).1).2 := by rw [e1]; simp only [recS, hyes, if_true, h2]; omega
          have e5 : (out ++ [r]).map mkS = out.map mkS ++ [mkS r] := by simp
          rw [e2, e3, e4, e5] at ih
          have hw1 : IntKind.i64.wrap ((x.length : Int) + 1) = ((x.length + 1 : Nat) : Int) := by rw [wrap_i] <;> omega
          have hw2 : IntKind.i64.wrap ((pre.length : Int) + ((x.length + 1 : Nat) : Int)) = ((pre.length + (x.length + 1) : Nat) : Int) := by rw [wrap_i] <;> omega
          have hroom : (((out.map mkS).length + 1) * 16 ≤ 140737488355328 ∧ (out.map mkS).length ≤ 9223372036854775806) = True := tr (by rw [List.length_map]; omega)
          simp -implicitDefEqProofs only [zero_le_cast, bounds_eq, tr hle, Int.le_refl, Int.toNat_natCast, hsl, h43, h43b, h44, gt_iff_lt, fa hsz, fa hsz2, fa hsz3, tr hok, hw1, hw2, hroom, go_sem, Nat.reduceAdd, Nat.reduceSub, Nat.reduceMul, Nat.reduceMod, Nat.reduceLT, Nat.reduceLeDiff, Nat.reduceEqDiff, Nat.reduceBEq, Nat.reduceDiv, Int.reduceLT, Int.reduceLE, Int.reduceToNat, Int.reduceNeg, Int.reduceEq, ↓reduceIte, reduceCtorEq, ↓reduceDIte, Bool.false_eq_true, Bool.true_eq_false, ne_eq, not_true_eq_false, not_false_eq_true, Bool.true_or, Bool.false_or, Bool.or_true, Bool.or_false, Bool.true_and, Bool.false_and, Bool.and_true, Bool.and_false, Bool.not_true, Bool.not_false, Bool.not_eq_false', Bool.not_eq_true', and_true, true_and, and_false, false_and, or_true, true_or, or_false, false_or, and_self, or_self, decide_eq_true_eq, decide_true, decide_false, decide_eq_false_iff_not, ite_not, if_true, if_false, eq_self]
          exact ih
        · have hno : ¬ okLine prev x = true := fun e => hok ((line_ok hc2).2 e)
          simp -implicitDefEqProofs only [zero_le_cast, bounds_eq, tr hle, Int.le_refl, Int.toNat_natCast, hsl, h43, h43b, h44, gt_iff_lt, fa hsz, fa hsz2, fa hsz3, fa hok, go_sem, Nat.reduceAdd, Nat.reduceSub, Nat.reduceMul, Nat.reduceMod, Nat.reduceLT, Nat.reduceLeDiff, Nat.reduceEqDiff, Nat.reduceBEq, Nat.reduceDiv, Int.reduceLT, Int.reduceLE, Int.reduceToNat, Int.reduceNeg, Int.reduceEq, ↓reduceIte, reduceCtorEq, ↓reduceDIte, Bool.false_eq_true, Bool.true_eq_false, ne_eq, not_true_eq_false, not_false_eq_true, Bool.true_or, Bool.false_or, Bool.or_true, Bool.or_false, Bool.true_and, Bool.false_and, Bool.and_true, Bool.and_false, Bool.not_true, Bool.not_false, Bool.not_eq_false', Bool.not_eq_true', and_true, true_and, and_false, false_and, or_true, true_or, or_false, false_or, and_self, or_self, decide_eq_true_eq, decide_true, decide_false, decide_eq_false_iff_not, ite_not, if_true, if_false, eq_self]
          simp [recS, e1, hno]
/-- The program's answer. -/
theorem call_15 (l : List UInt8) (hl : l.length < 2000000) : callOf pr 15 [T l] [] = if 4000 < l.length then some (.tuple [.nilS, I 0, B false], []) else some (.tuple [.os (.t 1152), I (recS [] (linesA [] l).1).2, B true], [(1152, .arr true false .str ((recS [] (linesA [] l).1).1.map mkS))]) := by
  rw [call_eq pr 15 _ _ Try.f15 fn_15 _ rfl _ ann_15 rfl]
  by_cases h4 : 4000 < l.length
  · rw [if_pos h4]
    simp -implicitDefEqProofs only [tr (show (4000 : Int) < (l.length : Int) by omega), go_sem, Nat.reduceAdd, Nat.reduceSub, Nat.reduceMul, Nat.reduceMod, Nat.reduceLT, Nat.reduceLeDiff, Nat.reduceEqDiff, Nat.reduceBEq, Nat.reduceDiv, Int.reduceLT, Int.reduceLE, Int.reduceToNat, Int.reduceNeg, Int.reduceEq, ↓reduceIte, reduceCtorEq, ↓reduceDIte, Bool.false_eq_true, Bool.true_eq_false, ne_eq, not_true_eq_false, not_false_eq_true, Bool.true_or, Bool.false_or, Bool.or_true, Bool.or_false, Bool.true_and, Bool.false_and, Bool.and_true, Bool.and_false, Bool.not_true, Bool.not_false, Bool.not_eq_false', Bool.not_eq_true', and_true, true_and, and_false, false_and, or_true, true_or, or_false, false_or, and_self, or_self, decide_eq_true_eq, decide_true, decide_false, decide_eq_false_iff_not, ite_not, if_true, if_false, eq_self]
  · rw [if_neg h4]
    have h := loop_15 l (by omega) (l.length + 1) l [] [] [] (by omega) rfl (by simp) (by simp)
    simp only [List.nil_append, List.length_nil, Nat.zero_add] at h
    have h : loopOf pr 15 0 ⟨[(0, T l), (5, .os (.t 1152)), (6, I 0), (7, T [])], [(1152, .arr true false .str [])]⟩ = _ := h
    simp -implicitDefEqProofs only [fa (show ¬ (4000 : Int) < (l.length : Int) by omega), h, go_sem, Nat.reduceAdd, Nat.reduceSub, Nat.reduceMul, Nat.reduceMod, Nat.reduceLT, Nat.reduceLeDiff, Nat.reduceEqDiff, Nat.reduceBEq, Nat.reduceDiv, Int.reduceLT, Int.reduceLE, Int.reduceToNat, Int.reduceNeg, Int.reduceEq, ↓reduceIte, reduceCtorEq, ↓reduceDIte, Bool.false_eq_true, Bool.true_eq_false, ne_eq, not_true_eq_false, not_false_eq_true, Bool.true_or, Bool.false_or, Bool.or_true, Bool.or_false, Bool.true_and, Bool.false_and, Bool.and_true, Bool.and_false, Bool.not_true, Bool.not_false, Bool.not_eq_false', Bool.not_eq_true', and_true, true_and, and_false, false_and, or_true, true_or, or_false, false_or, and_self, or_self, decide_eq_true_eq, decide_true, decide_false, decide_eq_false_iff_not, ite_not, if_true, if_false, eq_self]
end Go.Proofs.Ytidodagkfbplaaa.PI
