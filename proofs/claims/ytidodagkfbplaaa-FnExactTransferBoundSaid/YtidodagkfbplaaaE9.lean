/- The reference's sources. -/
import Derived.Test.YtidodagkfbplaaaE8
import Derived.Test.YtidodagkfbplaaaGQBits
namespace Go.Proofs.Ytidodagkfbplaaa.PI
open Go Go.Q
set_option maxRecDepth 100000
set_option maxHeartbeats 4000000
set_option linter.unusedSimpArgs false

theorem u64_small {k : Nat} (h : k < 1000000000000000000) : IntKind.u64.wrap (k : Int) = (k : Int) := by rw [wrap_u64] <;> omega
theorem i64_pow {k : Nat} (h : k < 62) : IntKind.i64.wrap (1 * 2 ^ k) = ((2 ^ k : Nat) : Int) := by
  have : (2 : Nat) ^ k < 2 ^ 62 := Nat.pow_lt_pow_right (by omega) h
  rw [show (1 * 2 ^ k : Int) = ((2 ^ k : Nat) : Int) from by simp, wrap_i64_nat (by omega)]
theorem min_64 {k : Nat} (h : k < 64) : min k 64 = k := by omega
theorem min_i64 {k : Nat} (h : k < 64) : min ((k : Int).toNat) 64 = k := by simp; omega

/-- Has a node no predecessors? -/
def isSrc (xs : List (List Int)) (k : Nat) : Bool := decide (((xs.getD k []).length : Int) = 0)
theorem loop_52 (xs : List (List Int)) (hn : xs.length ≤ 6) : ∀ (n k : Nat), k + n = xs.length →
    loopOf pr 52 0 ⟨[(0, .rp [LL xs]), (3, I (maskB (isSrc xs) k)), (4, I k)], []⟩ = some (.exit 0, ⟨[(0, .rp [LL xs]), (3, I (maskB (isSrc xs) xs.length)), (4, I xs.length)], []⟩)
  | 0, k, h => by
    have : k = xs.length := by omega
    subst this
    rw [loop_eq pr 52 0 _ Try.f52 fn_52 _ rfl _ ann_52 _ rfl]
    simp -implicitDefEqProofs only [Int.lt_irrefl, go_sem, Nat.reduceAdd, Nat.reduceSub, Nat.reduceMul, Nat.reduceMod, Nat.reduceLT, Nat.reduceLeDiff, Nat.reduceEqDiff, Nat.reduceBEq, Nat.reduceDiv, Int.reduceLT, Int.reduceLE, Int.reduceToNat, Int.reduceNeg, Int.reduceEq, ↓reduceIte, reduceCtorEq, ↓reduceDIte, Bool.false_eq_true, Bool.true_eq_false, ne_eq, not_true_eq_false, not_false_eq_true, Bool.true_or, Bool.false_or, Bool.or_true, Bool.or_false, Bool.true_and, Bool.false_and, Bool.and_true, Bool.and_false, Bool.not_true, Bool.not_false, Bool.not_eq_false', Bool.not_eq_true', and_true, true_and, and_false, false_and, or_true, true_or, or_false, false_or, and_self, or_self, decide_eq_true_eq, decide_true, decide_false, decide_eq_false_iff_not, ite_not, if_true, if_false, eq_self]
  | n + 1, k, h => by
    have hlt : k < xs.length := by omega
    have hb : xs.length < 1000000000000000000 := by omega
    have ih := loop_52 xs hn n (k + 1) (by omega)
    have hm := maskB_lt (isSrc xs) k
    have hm2 : (2 : Nat) ^ k ≤ 2 ^ 6 := Nat.pow_le_pow_right (by omega) (by omega)
    have hor := bits_or (a := maskB (isSrc xs) k) (b := 2 ^ k) (by omega) (by omega)
    simp only [maskB] at ih
    rw [loop_eq pr 52 0 _ Try.f52 fn_52 _ rfl _ ann_52 _ rfl]
    by_cases hs : ((xs.getD k []).length : Int) = 0
    · have hs' : isSrc xs k = true := by simp only [isSrc, hs, decide_true]
      rw [if_pos hs'] at ih
      simp -implicitDefEqProofs only [lt_cast hlt, zero_le_cast, Int.toNat_natCast, wrap_succ hlt hb, tr hs, u64_small (show k < 1000000000000000000 by omega), cast_neg, min_64 (show k < 64 by omega), i64_pow (show k < 62 by omega), hor, IntKind.bits, go_sem, Nat.reduceAdd, Nat.reduceSub, Nat.reduceMul, Nat.reduceMod, Nat.reduceLT, Nat.reduceLeDiff, Nat.reduceEqDiff, Nat.reduceBEq, Nat.reduceDiv, Int.reduceLT, Int.reduceLE, Int.reduceToNat, Int.reduceNeg, Int.reduceEq, ↓reduceIte, reduceCtorEq, ↓reduceDIte, Bool.false_eq_true, Bool.true_eq_false, ne_eq, not_true_eq_false, not_false_eq_true, Bool.true_or, Bool.false_or, Bool.or_true, Bool.or_false, Bool.true_and, Bool.false_and, Bool.and_true, Bool.and_false, Bool.not_true, Bool.not_false, Bool.not_eq_false', Bool.not_eq_true', and_true, true_and, and_false, false_and, or_true, true_or, or_false, false_or, and_self, or_self, decide_eq_true_eq, decide_true, decide_false, decide_eq_false_iff_not, ite_not, if_true, if_false, eq_self]
      exact ih
    · have hs' : ¬ isSrc xs k = true := by simp only [isSrc, hs, decide_false, Bool.false_eq_true, not_false_eq_true]
      rw [if_neg hs'] at ih
      simp -implicitDefEqProofs only [lt_cast hlt, zero_le_cast, Int.toNat_natCast, wrap_succ hlt hb, fa hs, go_sem, Nat.reduceAdd, Nat.reduceSub, Nat.reduceMul, Nat.reduceMod, Nat.reduceLT, Nat.reduceLeDiff, Nat.reduceEqDiff, Nat.reduceBEq, Nat.reduceDiv, Int.reduceLT, Int.reduceLE, Int.reduceToNat, Int.reduceNeg, Int.reduceEq, ↓reduceIte, reduceCtorEq, ↓reduceDIte, Bool.false_eq_true, Bool.true_eq_false, ne_eq, not_true_eq_false, not_false_eq_true, Bool.true_or, Bool.false_or, Bool.or_true, Bool.or_false, Bool.true_and, Bool.false_and, Bool.and_true, Bool.and_false, Bool.not_true, Bool.not_false, Bool.not_eq_false', Bool.not_eq_true', and_true, true_and, and_false, false_and, or_true, true_or, or_false, false_or, and_self, or_self, decide_eq_true_eq, decide_true, decide_false, decide_eq_false_iff_not, ite_not, if_true, if_false, eq_self]
      exact ih
theorem call_52 (xs : List (List Int)) (hn : xs.length ≤ 6) : callOf pr 52 [.rp [LL xs]] [] = some (I (maskB (isSrc xs) xs.length), []) := by
  have h := loop_52 xs hn xs.length 0 (by omega)
  have h : loopOf pr 52 0 ⟨[(0, .rp [LL xs]), (3, I 0), (4, I 0)], []⟩ = _ := h
  rw [call_eq pr 52 _ _ Try.f52 fn_52 _ rfl _ ann_52 rfl]
  simp -implicitDefEqProofs only [h, go_sem, Nat.reduceAdd, Nat.reduceSub, Nat.reduceMul, Nat.reduceMod, Nat.reduceLT, Nat.reduceLeDiff, Nat.reduceEqDiff, Nat.reduceBEq, Nat.reduceDiv, Int.reduceLT, Int.reduceLE, Int.reduceToNat, Int.reduceNeg, Int.reduceEq, ↓reduceIte, reduceCtorEq, ↓reduceDIte, Bool.false_eq_true, Bool.true_eq_false, ne_eq, not_true_eq_false, not_false_eq_true, Bool.true_or, Bool.false_or, Bool.or_true, Bool.or_false, Bool.true_and, Bool.false_and, Bool.and_true, Bool.and_false, Bool.not_true, Bool.not_false, Bool.not_eq_false', Bool.not_eq_true', and_true, true_and, and_false, false_and, or_true, true_or, or_false, false_or, and_self, or_self, decide_eq_true_eq, decide_true, decide_false, decide_eq_false_iff_not, ite_not, if_true, if_false, eq_self]

theorem loop_51 (m : Nat) (hm : m < 2 ^ 63) : ∀ (n k : Nat), k + n = 6 →
    loopOf pr 51 0 ⟨[(0, I m), (3, .os (.t 320)), (4, I k)], [(320, .arr true false (.int .i64) (those m.testBit k))]⟩ = some (.exit 0, ⟨[(0, I m), (3, .os (.t 320)), (4, I 6)], [(320, .arr true false (.int .i64) (those m.testBit 6))]⟩)
  | 0, k, h => by
    have : k = 6 := by omega
    subst this
    rw [loop_eq pr 51 0 _ Try.f51 fn_51 _ rfl _ ann_51 _ rfl]
    simp -implicitDefEqProofs only [Int.lt_irrefl, go_sem, Nat.reduceAdd, Nat.reduceSub, Nat.reduceMul, Nat.reduceMod, Nat.reduceLT, Nat.reduceLeDiff, Nat.reduceEqDiff, Nat.reduceBEq, Nat.reduceDiv, Int.reduceLT, Int.reduceLE, Int.reduceToNat, Int.reduceNeg, Int.reduceEq, ↓reduceIte, reduceCtorEq, ↓reduceDIte, Bool.false_eq_true, Bool.true_eq_false, ne_eq, not_true_eq_false, not_false_eq_true, Bool.true_or, Bool.false_or, Bool.or_true, Bool.or_false, Bool.true_and, Bool.false_and, Bool.and_true, Bool.and_false, Bool.not_true, Bool.not_false, Bool.not_eq_false', Bool.not_eq_true', and_true, true_and, and_false, false_and, or_true, true_or, or_false, false_or, and_self, or_self, decide_eq_true_eq, decide_true, decide_false, decide_eq_false_iff_not, ite_not, if_true, if_false, eq_self]
    rfl
  | n + 1, k, h => by
    have ih := loop_51 m hm n (k + 1) (by omega)
    rw [those_succ] at ih
    have hk : ((k : Int) < 6) = True := tr (by omega)
    have hw : IntKind.i64.wrap ((k : Int) + 1) = ((k + 1 : Nat) : Int) := by rw [wrap_i] <;> omega
    have hbit := bit_is (k := k) hm
    have hlen := those_length m.testBit k
    have hroom : (((those m.testBit k).length + 1) * 8 ≤ 140737488355328 ∧ (those m.testBit k).length ≤ 9223372036854775806) = True := tr (by omega)
    have hroom2 : (((those m.testBit k).length + 1) * 8 ≤ 140737488355328 ∧ (those m.testBit k).length + 1 ≤ 9223372036854775807) = True := tr (by omega)
    rw [loop_eq pr 51 0 _ Try.f51 fn_51 _ rfl _ ann_51 _ rfl]
    by_cases hs : m.testBit k = true
    · rw [if_pos hs] at ih hbit
      simp -implicitDefEqProofs only [hk, hw, zero_le_cast, Int.toNat_natCast, u64_small (show k < 1000000000000000000 by omega), cast_neg, min_64 (show k < 64 by omega), hbit, hroom, hroom2, IntKind.bits, go_sem, Nat.reduceAdd, Nat.reduceSub, Nat.reduceMul, Nat.reduceMod, Nat.reduceLT, Nat.reduceLeDiff, Nat.reduceEqDiff, Nat.reduceBEq, Nat.reduceDiv, Int.reduceLT, Int.reduceLE, Int.reduceToNat, Int.reduceNeg, Int.reduceEq, ↓reduceIte, reduceCtorEq, ↓reduceDIte, Bool.false_eq_true, Bool.true_eq_false, ne_eq, not_true_eq_false, not_false_eq_true, Bool.true_or, Bool.false_or, Bool.or_true, Bool.or_false, Bool.true_and, Bool.false_and, Bool.and_true, Bool.and_false, Bool.not_true, Bool.not_false, Bool.not_eq_false', Bool.not_eq_true', and_true, true_and, and_false, false_and, or_true, true_or, or_false, false_or, and_self, or_self, decide_eq_true_eq, decide_true, decide_false, decide_eq_false_iff_not, ite_not, if_true, if_false, eq_self]
      exact ih
    · rw [if_neg hs] at ih hbit
      simp -implicitDefEqProofs only [hk, hw, zero_le_cast, Int.toNat_natCast, u64_small (show k < 1000000000000000000 by omega), cast_neg, min_64 (show k < 64 by omega), hbit, IntKind.bits, go_sem, Nat.reduceAdd, Nat.reduceSub, Nat.reduceMul, Nat.reduceMod, Nat.reduceLT, Nat.reduceLeDiff, Nat.reduceEqDiff, Nat.reduceBEq, Nat.reduceDiv, Int.reduceLT, Int.reduceLE, Int.reduceToNat, Int.reduceNeg, Int.reduceEq, ↓reduceIte, reduceCtorEq, ↓reduceDIte, Bool.false_eq_true, Bool.true_eq_false, ne_eq, not_true_eq_false, not_false_eq_true, Bool.true_or, Bool.false_or, Bool.or_true, Bool.or_false, Bool.true_and, Bool.false_and, Bool.and_true, Bool.and_false, Bool.not_true, Bool.not_false, Bool.not_eq_false', Bool.not_eq_true', and_true, true_and, and_false, false_and, or_true, true_or, or_false, false_or, and_self, or_self, decide_eq_true_eq, decide_true, decide_false, decide_eq_false_iff_not, ite_not, if_true, if_false, eq_self]
      exact ih
theorem call_51 (m : Nat) (hm : m < 2 ^ 63) : callOf pr 51 [I m] [] = some (.os (.t 320), [(320, .arr true false (.int .i64) (those m.testBit 6))]) := by
  have h := loop_51 m hm 6 0 (by omega)
  have h : loopOf pr 51 0 ⟨[(0, I m), (3, .os (.t 320)), (4, I 0)], [(320, .arr true false (.int .i64) [])]⟩ = _ := h
  rw [call_eq pr 51 _ _ Try.f51 fn_51 _ rfl _ ann_51 rfl]
  simp -implicitDefEqProofs only [h, go_sem, Nat.reduceAdd, Nat.reduceSub, Nat.reduceMul, Nat.reduceMod, Nat.reduceLT, Nat.reduceLeDiff, Nat.reduceEqDiff, Nat.reduceBEq, Nat.reduceDiv, Int.reduceLT, Int.reduceLE, Int.reduceToNat, Int.reduceNeg, Int.reduceEq, ↓reduceIte, reduceCtorEq, ↓reduceDIte, Bool.false_eq_true, Bool.true_eq_false, ne_eq, not_true_eq_false, not_false_eq_true, Bool.true_or, Bool.false_or, Bool.or_true, Bool.or_false, Bool.true_and, Bool.false_and, Bool.and_true, Bool.and_false, Bool.not_true, Bool.not_false, Bool.not_eq_false', Bool.not_eq_true', and_true, true_and, and_false, false_and, or_true, true_or, or_false, false_or, and_self, or_self, decide_eq_true_eq, decide_true, decide_false, decide_eq_false_iff_not, ite_not, if_true, if_false, eq_self]

theorem those_below (f : Nat → Bool) (n : Nat) : ∀ m, n ≤ m → those (fun k => decide (k < n) && f k) m = those f n := by
  intro m h
  induction m with
  | zero => have : n = 0 := by omega
            subst this; rfl
  | succ m ih =>
    by_cases e : n = m + 1
    · subst e
      exact those_congr fun k hk => by simp [hk]
    · have hlt : ¬ m < n := by omega
      rw [those_succ, if_neg (by simp [hlt]), ih (by omega)]

/-- The reference's answer. -/
theorem call_23 (xs : List (List Int)) (hb : xs.length < 1000000000000000000) (hc : ∀ x ∈ xs, x.length < 1000000000000000000) : callOf pr 23 [.agg [LL xs]] [] = if specValid xs = true then some (.tuple [.os (.t 448), B true], [(448, .arr true false (.int .i64) (those (isSrc xs) xs.length))]) else some (.tuple [.nilS, B false], []) := by
  have h34 := call_34 xs hb hc
  rw [call_eq pr 23 _ _ Try.f23 fn_23 _ rfl _ ann_23 rfl]
  cases hv : specValid xs with
  | false =>
    rw [hv] at h34
    simp -implicitDefEqProofs only [h34, go_sem, Nat.reduceAdd, Nat.reduceSub, Nat.reduceMul, Nat.reduceMod, Nat.reduceLT, Nat.reduceLeDiff, Nat.reduceEqDiff, Nat.reduceBEq, Nat.reduceDiv, Int.reduceLT, Int.reduceLE, Int.reduceToNat, Int.reduceNeg, Int.reduceEq, ↓reduceIte, reduceCtorEq, ↓reduceDIte, Bool.false_eq_true, Bool.true_eq_false, ne_eq, not_true_eq_false, not_false_eq_true, Bool.true_or, Bool.false_or, Bool.or_true, Bool.or_false, Bool.true_and, Bool.false_and, Bool.and_true, Bool.and_false, Bool.not_true, Bool.not_false, Bool.not_eq_false', Bool.not_eq_true', and_true, true_and, and_false, false_and, or_true, true_or, or_false, false_or, and_self, or_self, decide_eq_true_eq, decide_true, decide_false, decide_eq_false_iff_not, ite_not, if_true, if_false, eq_self]
  | true =>
    rw [hv] at h34
    have hn : xs.length ≤ 6 := by
      have := hv
      unfold specValid at this
      simp at this
      omega
    have hm := maskB_lt (isSrc xs) xs.length
    have hm2 : (2 : Nat) ^ xs.length ≤ 2 ^ 6 := Nat.pow_le_pow_right (by omega) hn
    have h51 := call_51 (maskB (isSrc xs) xs.length) (by omega)
    have e : those (maskB (isSrc xs) xs.length).testBit 6 = those (isSrc xs) xs.length := by
      rw [← those_below (isSrc xs) xs.length 6 hn]
      exact those_congr fun k _ => maskB_bit _ _ _
    rw [e] at h51
    simp -implicitDefEqProofs only [h34, call_52 xs hn, h51, go_sem, Nat.reduceAdd, Nat.reduceSub, Nat.reduceMul, Nat.reduceMod, Nat.reduceLT, Nat.reduceLeDiff, Nat.reduceEqDiff, Nat.reduceBEq, Nat.reduceDiv, Int.reduceLT, Int.reduceLE, Int.reduceToNat, Int.reduceNeg, Int.reduceEq, ↓reduceIte, reduceCtorEq, ↓reduceDIte, Bool.false_eq_true, Bool.true_eq_false, ne_eq, not_true_eq_false, not_false_eq_true, Bool.true_or, Bool.false_or, Bool.or_true, Bool.or_false, Bool.true_and, Bool.false_and, Bool.and_true, Bool.and_false, Bool.not_true, Bool.not_false, Bool.not_eq_false', Bool.not_eq_true', and_true, true_and, and_false, false_and, or_true, true_or, or_false, false_or, and_self, or_self, decide_eq_true_eq, decide_true, decide_false, decide_eq_false_iff_not, ite_not, if_true, if_false, eq_self]
end Go.Proofs.Ytidodagkfbplaaa.PI
