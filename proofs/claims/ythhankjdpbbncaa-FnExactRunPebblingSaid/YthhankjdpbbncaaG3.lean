/- Graphs: sources. -/
import Derived.Test.YthhankjdpbbncaaG2
import Derived.Test.YthhankjdpbbncaaGQBits
namespace Go.Proofs.Ythhankjdpbbncaa.PI
open Go Go.Q
set_option maxRecDepth 100000
set_option maxHeartbeats 4000000
set_option linter.unusedSimpArgs false
set_option linter.unusedVariables false

theorem u64_small {k : Nat} (h : k < 1000000000000000000) : IntKind.u64.wrap (k : Int) = (k : Int) := by rw [wrap_u64] <;> omega
theorem i64_pow {k : Nat} (h : k < 62) : IntKind.i64.wrap (1 * 2 ^ k) = ((2 ^ k : Nat) : Int) := by
  have : (2 : Nat) ^ k < 2 ^ 62 := Nat.pow_lt_pow_right (by omega) h
  rw [show (1 * 2 ^ k : Int) = ((2 ^ k : Nat) : Int) from by simp, wrap_i64_nat (by omega)]
theorem min_64 {k : Nat} (h : k < 64) : min k 64 = k := by omega
theorem min_i64 {k : Nat} (h : k < 64) : min ((k : Int).toNat) 64 = k := by simp; omega

/-- Has a node no predecessors? -/
def isSrc (xs : List (List Int)) (k : Nat) : Bool := decide (((xs.getD k []).length : Int) = 0)
theorem loop_80 (xs : List (List Int)) (hn : xs.length ≤ 6) : ∀ (n k : Nat), k + n = xs.length →
    loopOf pr 80 0 ⟨[(0, .rp [LL xs]), (3, I (maskB (isSrc xs) k)), (4, I k)], []⟩ = some (.exit 0, ⟨[(0, .rp [LL xs]), (3, I (maskB (isSrc xs) xs.length)), (4, I xs.length)], []⟩)
  | 0, k, h => by
    have : k = xs.length := by omega
    subst this
    rw [loop_eq pr 80 0 _ Try.f80 fn_80 _ rfl _ ann_80 _ rfl]
    simp -implicitDefEqProofs only [Int.lt_irrefl, go_sem, Nat.reduceAdd, Nat.reduceSub, Nat.reduceMul, Nat.reduceMod, Nat.reduceLT, Nat.reduceLeDiff, Nat.reduceEqDiff, Nat.reduceBEq, Nat.reduceDiv, Int.reduceLT, Int.reduceLE, Int.reduceToNat, Int.reduceNeg, Int.reduceEq, ↓reduceIte, reduceCtorEq, ↓reduceDIte, Bool.false_eq_true, Bool.true_eq_false, ne_eq, not_true_eq_false, not_false_eq_true, Bool.true_or, Bool.false_or, Bool.or_true, Bool.or_false, Bool.true_and, Bool.false_and, Bool.and_true, Bool.and_false, Bool.not_true, Bool.not_false, Bool.not_eq_false', Bool.not_eq_true', and_true, true_and, and_false, false_and, or_true, true_or, or_false, false_or, and_self, or_self, decide_eq_true_eq, decide_true, decide_false, decide_eq_false_iff_not, ite_not, if_true, if_false, eq_self]
  | n + 1, k, h => by
    have hlt : k < xs.length := by omega
    have hb : xs.length < 1000000000000000000 := by omega
    have ih := loop_80 xs hn n (k + 1) (by omega)
    have hm := maskB_lt (isSrc xs) k
    have hm2 : (2 : Nat) ^ k ≤ 2 ^ 6 := Nat.pow_le_pow_right (by omega) (by omega)
    have hor := bits_or (a := maskB (isSrc xs) k) (b := 2 ^ k) (by omega) (by omega)
    simp only [maskB] at ih
    rw [loop_eq pr 80 0 _ Try.f80 fn_80 _ rfl _ ann_80 _ rfl]
    by_cases hs : ((xs.getD k []).length : Int) = 0
    · have hs' : isSrc xs k = true := by simp only [isSrc, hs, decide_true]
      rw [if_pos hs'] at ih
      simp -implicitDefEqProofs only [lt_cast hlt, zero_le_cast, Int.toNat_natCast, wrap_succ hlt hb, tr hs, u64_small (show k < 1000000000000000000 by omega), cast_neg, min_64 (show k < 64 by omega), i64_pow (show k < 62 by omega), hor, IntKind.bits, go_sem, Nat.reduceAdd, Nat.reduceSub, Nat.reduceMul, Nat.reduceMod, Nat.reduceLT, Nat.reduceLeDiff, Nat.reduceEqDiff, Nat.reduceBEq, Nat.reduceDiv, Int.reduceLT, Int.reduceLE, Int.reduceToNat, Int.reduceNeg, Int.reduceEq, ↓reduceIte, reduceCtorEq, ↓reduceDIte, Bool.false_eq_true, Bool.true_eq_false, ne_eq, not_true_eq_false, not_false_eq_true, Bool.true_or, Bool.false_or, Bool.or_true, Bool.or_false, Bool.true_and, Bool.false_and, Bool.and_true, Bool.and_false, Bool.not_true, Bool.not_false, Bool.not_eq_false', Bool.not_eq_true', and_true, true_and, and_false, false_and, or_true, true_or, or_false, false_or, and_self, or_self, decide_eq_true_eq, decide_true, decide_false, decide_eq_false_iff_not, ite_not, if_true, if_false, eq_self]
      exact ih
    · have hs' : ¬ isSrc xs k = true := by simp only [isSrc, hs, decide_false, Bool.false_eq_true, not_false_eq_true]
      rw [if_neg hs'] at ih
      simp -implicitDefEqProofs only [lt_cast hlt, zero_le_cast, Int.toNat_natCast, wrap_succ hlt hb, fa hs, go_sem, Nat.reduceAdd, Nat.reduceSub, Nat.reduceMul, Nat.reduceMod, Nat.reduceLT, Nat.reduceLeDiff, Nat.reduceEqDiff, Nat.reduceBEq, Nat.reduceDiv, Int.reduceLT, Int.reduceLE, Int.reduceToNat, Int.reduceNeg, Int.reduceEq, ↓reduceIte, reduceCtorEq, ↓reduceDIte, Bool.false_eq_true, Bool.true_eq_false, ne_eq, not_true_eq_false, not_false_eq_true, Bool.true_or, Bool.false_or, Bool.or_true, Bool.or_false, Bool.true_and, Bool.false_and, Bool.and_true, Bool.and_false, Bool.not_true, Bool.not_false, Bool.not_eq_false', Bool.not_eq_true', and_true, true_and, and_false, false_and, or_true, true_or, or_false, false_or, and_self, or_self, decide_eq_true_eq, decide_true, decide_false, decide_eq_false_iff_not, ite_not, if_true, if_false, eq_self]
      exact ih
theorem call_80 (xs : List (List Int)) (hn : xs.length ≤ 6) : callOf pr 80 [.rp [LL xs]] [] = some (I (maskB (isSrc xs) xs.length), []) := by
  have h := loop_80 xs hn xs.length 0 (by omega)
  have h : loopOf pr 80 0 ⟨[(0, .rp [LL xs]), (3, I 0), (4, I 0)], []⟩ = _ := h
  rw [call_eq pr 80 _ _ Try.f80 fn_80 _ rfl _ ann_80 rfl]
  simp -implicitDefEqProofs only [h, go_sem, Nat.reduceAdd, Nat.reduceSub, Nat.reduceMul, Nat.reduceMod, Nat.reduceLT, Nat.reduceLeDiff, Nat.reduceEqDiff, Nat.reduceBEq, Nat.reduceDiv, Int.reduceLT, Int.reduceLE, Int.reduceToNat, Int.reduceNeg, Int.reduceEq, ↓reduceIte, reduceCtorEq, ↓reduceDIte, Bool.false_eq_true, Bool.true_eq_false, ne_eq, not_true_eq_false, not_false_eq_true, Bool.true_or, Bool.false_or, Bool.or_true, Bool.or_false, Bool.true_and, Bool.false_and, Bool.and_true, Bool.and_false, Bool.not_true, Bool.not_false, Bool.not_eq_false', Bool.not_eq_true', and_true, true_and, and_false, false_and, or_true, true_or, or_false, false_or, and_self, or_self, decide_eq_true_eq, decide_true, decide_false, decide_eq_false_iff_not, ite_not, if_true, if_false, eq_self]

theorem loop_77 (m : Nat) (hm : m < 2 ^ 63) : ∀ (n k : Nat), k + n = 6 →
    loopOf pr 77 0 ⟨[(0, I m), (3, .os (.t 320)), (4, I k)], [(320, .arr true false (.int .i64) (those m.testBit k))]⟩ = some (.exit 0, ⟨[(0, I m), (3, .os (.t 320)), (4, I 6)], [(320, .arr true false (.int .i64) (those m.testBit 6))]⟩)
  | 0, k, h => by
    have : k = 6 := by omega
    subst this
    rw [loop_eq pr 77 0 _ Try.f77 fn_77 _ rfl _ ann_77 _ rfl]
    simp -implicitDefEqProofs only [Int.lt_irrefl, go_sem, Nat.reduceAdd, Nat.reduceSub, Nat.reduceMul, Nat.reduceMod, Nat.reduceLT, Nat.reduceLeDiff, Nat.reduceEqDiff, Nat.reduceBEq, Nat.reduceDiv, Int.reduceLT, Int.reduceLE, Int.reduceToNat, Int.reduceNeg, Int.reduceEq, ↓reduceIte, reduceCtorEq, ↓reduceDIte, Bool.false_eq_true, Bool.true_eq_false, ne_eq, not_true_eq_false, not_false_eq_true, Bool.true_or, Bool.false_or, Bool.or_true, Bool.or_false, Bool.true_and, Bool.false_and, Bool.and_true, Bool.and_false, Bool.not_true, Bool.not_false, Bool.not_eq_false', Bool.not_eq_true', and_true, true_and, and_false, false_and, or_true, true_or, or_false, false_or, and_self, or_self, decide_eq_true_eq, decide_true, decide_false, decide_eq_false_iff_not, ite_not, if_true, if_false, eq_self]
    rfl
  | n + 1, k, h => by
    have ih := loop_77 m hm n (k + 1) (by omega)
    rw [those_succ] at ih
    have hk : ((k : Int) < 6) = True := tr (by omega)
    have hw : IntKind.i64.wrap ((k : Int) + 1) = ((k + 1 : Nat) : Int) := by rw [wrap_i] <;> omega
    have hbit := bit_is (k := k) hm
    have hlen := those_length m.testBit k
    have hroom : (((those m.testBit k).length + 1) * 8 ≤ 140737488355328 ∧ (those m.testBit k).length ≤ 9223372036854775806) = True := tr (by omega)
    have hroom2 : (((those m.testBit k).length + 1) * 8 ≤ 140737488355328 ∧ (those m.testBit k).length + 1 ≤ 9223372036854775807) = True := tr (by omega)
    rw [loop_eq pr 77 0 _ Try.f77 fn_77 _ rfl _ ann_77 _ rfl]
    by_cases hs : m.testBit k = true
    · rw [if_pos hs] at ih hbit
      simp -implicitDefEqProofs only [hk, hw, zero_le_cast, Int.toNat_natCast, u64_small (show k < 1000000000000000000 by omega), cast_neg, min_64 (show k < 64 by omega), hbit, hroom, hroom2, IntKind.bits, go_sem, Nat.reduceAdd, Nat.reduceSub, Nat.reduceMul, Nat.reduceMod, Nat.reduceLT, Nat.reduceLeDiff, Nat.reduceEqDiff, Nat.reduceBEq, Nat.reduceDiv, Int.reduceLT, Int.reduceLE, Int.reduceToNat, Int.reduceNeg, Int.reduceEq, ↓reduceIte, reduceCtorEq, ↓reduceDIte, Bool.false_eq_true, Bool.true_eq_false, ne_eq, not_true_eq_false, not_false_eq_true, Bool.true_or, Bool.false_or, Bool.or_true, Bool.or_false, Bool.true_and, Bool.false_and, Bool.and_true, Bool.and_false, Bool.not_true, Bool.not_false, Bool.not_eq_false', Bool.not_eq_true', and_true, true_and, and_false, false_and, or_true, true_or, or_false, false_or, and_self, or_self, decide_eq_true_eq, decide_true, decide_false, decide_eq_false_iff_not, ite_not, if_true, if_false, eq_self]
      exact ih
    · rw [if_neg hs] at ih hbit
      simp -implicitDefEqProofs only [hk, hw, zero_le_cast, Int.toNat_natCast, u64_small (show k < 1000000000000000000 by omega), cast_neg, min_64 (show k < 64 by omega), hbit, IntKind.bits, go_sem, Nat.reduceAdd, Nat.reduceSub, Nat.reduceMul, Nat.reduceMod, Nat.reduceLT, Nat.reduceLeDiff, Nat.reduceEqDiff, Nat.reduceBEq, Nat.reduceDiv, Int.reduceLT, Int.reduceLE, Int.reduceToNat, Int.reduceNeg, Int.reduceEq, ↓reduceIte, reduceCtorEq, ↓reduceDIte, Bool.false_eq_true, Bool.true_eq_false, ne_eq, not_true_eq_false, not_false_eq_true, Bool.true_or, Bool.false_or, Bool.or_true, Bool.or_false, Bool.true_and, Bool.false_and, Bool.and_true, Bool.and_false, Bool.not_true, Bool.not_false, Bool.not_eq_false', Bool.not_eq_true', and_true, true_and, and_false, false_and, or_true, true_or, or_false, false_or, and_self, or_self, decide_eq_true_eq, decide_true, decide_false, decide_eq_false_iff_not, ite_not, if_true, if_false, eq_self]
      exact ih
theorem call_77 (m : Nat) (hm : m < 2 ^ 63) : callOf pr 77 [I m] [] = some (.os (.t 320), [(320, .arr true false (.int .i64) (those m.testBit 6))]) := by
  have h := loop_77 m hm 6 0 (by omega)
  have h : loopOf pr 77 0 ⟨[(0, I m), (3, .os (.t 320)), (4, I 0)], [(320, .arr true false (.int .i64) [])]⟩ = _ := h
  rw [call_eq pr 77 _ _ Try.f77 fn_77 _ rfl _ ann_77 rfl]
  simp -implicitDefEqProofs only [h, go_sem, Nat.reduceAdd, Nat.reduceSub, Nat.reduceMul, Nat.reduceMod, Nat.reduceLT, Nat.reduceLeDiff, Nat.reduceEqDiff, Nat.reduceBEq, Nat.reduceDiv, Int.reduceLT, Int.reduceLE, Int.reduceToNat, Int.reduceNeg, Int.reduceEq, ↓reduceIte, reduceCtorEq, ↓reduceDIte, Bool.false_eq_true, Bool.true_eq_false, ne_eq, not_true_eq_false, not_false_eq_true, Bool.true_or, Bool.false_or, Bool.or_true, Bool.or_false, Bool.true_and, Bool.false_and, Bool.and_true, Bool.and_false, Bool.not_true, Bool.not_false, Bool.not_eq_false', Bool.not_eq_true', and_true, true_and, and_false, false_and, or_true, true_or, or_false, false_or, and_self, or_self, decide_eq_true_eq, decide_true, decide_false, decide_eq_false_iff_not, ite_not, if_true, if_false, eq_self]

theorem those_below (f : Nat → Bool) (n : Nat) : ∀ m, n ≤ m → those (fun k => decide (k < n) && f k) m = those f n := by
  intro m h
  induction m with
  | zero => have : n = 0 := by omega
            subst this; rfl
  | succ m ih =>
    by_cases e : n = m + 1
    · subst e
      exact those_congr fun k hk => by simp [hk]
    · have hlt : ¬ m < n := by omega
      rw [those_succ, if_neg (by simp [hlt]), ih (by omega)]

theorem loop_107 (n : Nat) (hn : n < 2000000) : ∀ (r k : Nat), k + r = n →
    loopOf pr 107 0 ⟨[(3, .os (.t 320)), (6, I n), (7, I k)], [(320, .arr true false (.int .i64) (those (fun _ => true) k))]⟩ = some (.exit 0, ⟨[(3, .os (.t 320)), (6, I n), (7, I n)], [(320, .arr true false (.int .i64) (those (fun _ => true) n))]⟩)
  | 0, k, h => by
    have : k = n := by omega
    subst this
    rw [loop_eq pr 107 0 _ Try.f107 fn_107 _ rfl _ ann_107 _ rfl]
    simp -implicitDefEqProofs only [Int.lt_irrefl, go_sem, Nat.reduceAdd, Nat.reduceSub, Nat.reduceMul, Nat.reduceMod, Nat.reduceLT, Nat.reduceLeDiff, Nat.reduceEqDiff, Nat.reduceBEq, Nat.reduceDiv, Int.reduceLT, Int.reduceLE, Int.reduceToNat, Int.reduceNeg, Int.reduceEq, ↓reduceIte, reduceCtorEq, ↓reduceDIte, Bool.false_eq_true, Bool.true_eq_false, ne_eq, not_true_eq_false, not_false_eq_true, Bool.true_or, Bool.false_or, Bool.or_true, Bool.or_false, Bool.true_and, Bool.false_and, Bool.and_true, Bool.and_false, Bool.not_true, Bool.not_false, Bool.not_eq_false', Bool.not_eq_true', and_true, true_and, and_false, false_and, or_true, true_or, or_false, false_or, and_self, or_self, decide_eq_true_eq, decide_true, decide_false, decide_eq_false_iff_not, ite_not, if_true, if_false, eq_self]
  | r + 1, k, h => by
    have ih := loop_107 n hn r (k + 1) (by omega)
    rw [those_succ, if_pos rfl] at ih
    have hlt : k < n := by omega
    have hlen := those_length (fun _ => true) k
    have hroom : (((those (fun _ => true) k).length + 1) * 8 ≤ 140737488355328 ∧ (those (fun _ => true) k).length ≤ 9223372036854775806) = True := tr (by omega)
    rw [loop_eq pr 107 0 _ Try.f107 fn_107 _ rfl _ ann_107 _ rfl]
    simp -implicitDefEqProofs only [lt_cast hlt, wrap_succ hlt (show n < 1000000000000000000 by omega), hroom, go_sem, Nat.reduceAdd, Nat.reduceSub, Nat.reduceMul, Nat.reduceMod, Nat.reduceLT, Nat.reduceLeDiff, Nat.reduceEqDiff, Nat.reduceBEq, Nat.reduceDiv, Int.reduceLT, Int.reduceLE, Int.reduceToNat, Int.reduceNeg, Int.reduceEq, ↓reduceIte, reduceCtorEq, ↓reduceDIte, Bool.false_eq_true, Bool.true_eq_false, ne_eq, not_true_eq_false, not_false_eq_true, Bool.true_or, Bool.false_or, Bool.or_true, Bool.or_false, Bool.true_and, Bool.false_and, Bool.and_true, Bool.and_false, Bool.not_true, Bool.not_false, Bool.not_eq_false', Bool.not_eq_true', and_true, true_and, and_false, false_and, or_true, true_or, or_false, false_or, and_self, or_self, decide_eq_true_eq, decide_true, decide_false, decide_eq_false_iff_not, ite_not, if_true, if_false, eq_self]
    exact ih
theorem call_107 (n : Nat) (hn : n < 2000000) : callOf pr 107 [I n] [] = some (.os (.t 320), [(320, .arr true false (.int .i64) (those (fun _ => true) n))]) := by
  have h := loop_107 n hn n 0 (by omega)
  have h : loopOf pr 107 0 ⟨[(3, .os (.t 320)), (6, I n), (7, I 0)], [(320, .arr true false (.int .i64) [])]⟩ = _ := h
  rw [call_eq pr 107 _ _ Try.f107 fn_107 _ rfl _ ann_107 rfl]
  simp -implicitDefEqProofs only [h, go_sem, Nat.reduceAdd, Nat.reduceSub, Nat.reduceMul, Nat.reduceMod, Nat.reduceLT, Nat.reduceLeDiff, Nat.reduceEqDiff, Nat.reduceBEq, Nat.reduceDiv, Int.reduceLT, Int.reduceLE, Int.reduceToNat, Int.reduceNeg, Int.reduceEq, ↓reduceIte, reduceCtorEq, ↓reduceDIte, Bool.false_eq_true, Bool.true_eq_false, ne_eq, not_true_eq_false, not_false_eq_true, Bool.true_or, Bool.false_or, Bool.or_true, Bool.or_false, Bool.true_and, Bool.false_and, Bool.and_true, Bool.and_false, Bool.not_true, Bool.not_false, Bool.not_eq_false', Bool.not_eq_true', and_true, true_and, and_false, false_and, or_true, true_or, or_false, false_or, and_self, or_self, decide_eq_true_eq, decide_true, decide_false, decide_eq_false_iff_not, ite_not, if_true, if_false, eq_self]

theorem call_101 (xs : List (List Int)) (k : Nat) (hk : k < xs.length) : callOf pr 101 [I k, .rp [LL xs]] [] = some (B (isSrc xs k), []) := by
  rw [call_eq pr 101 _ _ Try.f101 fn_101 _ rfl _ ann_101 rfl]
  simp -implicitDefEqProofs only [lt_cast hk, zero_le_cast, Int.toNat_natCast, go_sem, Nat.reduceAdd, Nat.reduceSub, Nat.reduceMul, Nat.reduceMod, Nat.reduceLT, Nat.reduceLeDiff, Nat.reduceEqDiff, Nat.reduceBEq, Nat.reduceDiv, Int.reduceLT, Int.reduceLE, Int.reduceToNat, Int.reduceNeg, Int.reduceEq, ↓reduceIte, reduceCtorEq, ↓reduceDIte, Bool.false_eq_true, Bool.true_eq_false, ne_eq, not_true_eq_false, not_false_eq_true, Bool.true_or, Bool.false_or, Bool.or_true, Bool.or_false, Bool.true_and, Bool.false_and, Bool.and_true, Bool.and_false, Bool.not_true, Bool.not_false, Bool.not_eq_false', Bool.not_eq_true', and_true, true_and, and_false, false_and, or_true, true_or, or_false, false_or, and_self, or_self, decide_eq_true_eq, decide_true, decide_false, decide_eq_false_iff_not, ite_not, if_true, if_false, eq_self]
  rfl
theorem call_125 (g : Nat) (cs : List AV) (hC : Caps cs) (hg : pr.byref g = []) (x : Int) (b : Bool) (hp : callOf pr g (I x :: cs) [] = some (B b, [])) : callOf pr 125 [I x, .rp [.fn g cs]] [] = some (B (!b), []) := by
  rw [call_eq pr 125 _ _ Try.f125 fn_125 _ rfl _ ann_125 rfl]
  simp -implicitDefEqProofs only [hC.args, hC.own, hC.ow, hC.arg, hC.mapR, hC.leads, hg, hp, go_sem, Nat.reduceAdd, Nat.reduceSub, Nat.reduceMul, Nat.reduceMod, Nat.reduceLT, Nat.reduceLeDiff, Nat.reduceEqDiff, Nat.reduceBEq, Nat.reduceDiv, Int.reduceLT, Int.reduceLE, Int.reduceToNat, Int.reduceNeg, Int.reduceEq, ↓reduceIte, reduceCtorEq, ↓reduceDIte, Bool.false_eq_true, Bool.true_eq_false, ne_eq, not_true_eq_false, not_false_eq_true, Bool.true_or, Bool.false_or, Bool.or_true, Bool.or_false, Bool.true_and, Bool.false_and, Bool.and_true, Bool.and_false, Bool.not_true, Bool.not_false, Bool.not_eq_false', Bool.not_eq_true', and_true, true_and, and_false, false_and, or_true, true_or, or_false, false_or, and_self, or_self, decide_eq_true_eq, decide_true, decide_false, decide_eq_false_iff_not, ite_not, if_true, if_false, eq_self]

theorem loop_106 (p : Int → Bool) (g : Nat) (cs : List AV) (hC : Caps cs) (hg : pr.byref g = []) : ∀ (rest kept : List Int) (junk : List Int), junk ≠ [] → (kept ++ junk ++ rest).length < 1000000000000000000 → (∀ x ∈ rest, callOf pr g (I x :: cs) [] = some (B (p x), [])) →
    ∃ junk' : List Int, kept.length + junk.length + rest.length = (kept ++ rest.filter fun x => !p x).length + junk'.length ∧ loopOf pr 106 0 ⟨[(0, .os (.t 1000000)), (1, .fn g cs), (5, I kept.length), (6, I ((kept.length + junk.length : Nat) : Int))], [(1000000, .arr false false (.int .i64) (kept ++ junk ++ rest))]⟩ = some (.exit 0, ⟨[(0, .os (.t 1000000)), (1, .fn g cs), (5, I ((kept ++ rest.filter fun x => !p x).length : Int)), (6, I ((kept.length + junk.length + rest.length : Nat) : Int))], [(1000000, .arr false false (.int .i64) ((kept ++ rest.filter fun x => !p x) ++ junk'))]⟩)
  | [], kept, junk, hj, hb, hp => by
    refine ⟨junk, by simp, ?_⟩
    have hl : (kept ++ junk ++ []).length = kept.length + junk.length := by simp
    rw [loop_eq pr 106 0 _ Try.f106 fn_106 _ rfl _ ann_106 _ rfl]
    simp -implicitDefEqProofs only [Int.lt_irrefl, hl, hC.args, hC.own, hC.ow, hC.arg, hC.mapR, hC.leads, hg, go_sem, Nat.reduceAdd, Nat.reduceSub, Nat.reduceMul, Nat.reduceMod, Nat.reduceLT, Nat.reduceLeDiff, Nat.reduceEqDiff, Nat.reduceBEq, Nat.reduceDiv, Int.reduceLT, Int.reduceLE, Int.reduceToNat, Int.reduceNeg, Int.reduceEq, ↓reduceIte, reduceCtorEq, ↓reduceDIte, Bool.false_eq_true, Bool.true_eq_false, ne_eq, not_true_eq_false, not_false_eq_true, Bool.true_or, Bool.false_or, Bool.or_true, Bool.or_false, Bool.true_and, Bool.false_and, Bool.and_true, Bool.and_false, Bool.not_true, Bool.not_false, Bool.not_eq_false', Bool.not_eq_true', and_true, true_and, and_false, false_and, or_true, true_or, or_false, false_or, and_self, or_self, decide_eq_true_eq, decide_true, decide_false, decide_eq_false_iff_not, ite_not, if_true, if_false, eq_self]
    simp
  | v :: rest, kept, junk, hj, hb, hp => by
    have hl : (kept ++ junk ++ v :: rest).length = kept.length + junk.length + (rest.length + 1) := by simp; omega
    rw [hl] at hb
    have hlt : kept.length + junk.length < (kept ++ junk ++ v :: rest).length := by rw [hl]; omega
    have hv : (kept ++ junk ++ v :: rest).getD (kept.length + junk.length) 0 = v := by rw [← List.length_append]; simp
    have hpv := hp v (by simp)
    have hw : IntKind.i64.wrap (((kept.length + junk.length : Nat) : Int) + 1) = ((kept.length + junk.length + 1 : Nat) : Int) := by rw [wrap_i] <;> omega
    rw [loop_eq pr 106 0 _ Try.f106 fn_106 _ rfl _ ann_106 _ rfl]
    cases hq : p v with
    | true =>
      rw [hq] at hpv
      have h1 : (v :: rest).filter (fun x => !p x) = rest.filter fun x => !p x := by simp [hq]
      obtain ⟨junk', h2, h3⟩ := loop_106 p g cs hC hg rest kept (junk ++ [v]) (by simp) (by simp; omega) (fun x hx => hp x (by simp [hx]))
      rw [h1]
      refine ⟨junk', by rw [← h2]; simp; omega, ?_⟩
      have e1 : kept ++ (junk ++ [v]) ++ rest = kept ++ junk ++ v :: rest := by simp
      have e2 : kept.length + (junk ++ [v]).length = kept.length + junk.length + 1 := by simp; omega
      have e3 : kept.length + junk.length + 1 + rest.length = kept.length + junk.length + (v :: rest).length := by simp; omega
      rw [e1, e2, e3] at h3
      simp -implicitDefEqProofs only [lt_cast hlt, zero_le_cast, Int.toNat_natCast, hv, hw, hpv, hC.args, hC.own, hC.ow, hC.arg, hC.mapR, hC.leads, hg, go_sem, Nat.reduceAdd, Nat.reduceSub, Nat.reduceMul, Nat.reduceMod, Nat.reduceLT, Nat.reduceLeDiff, Nat.reduceEqDiff, Nat.reduceBEq, Nat.reduceDiv, Int.reduceLT, Int.reduceLE, Int.reduceToNat, Int.reduceNeg, Int.reduceEq, ↓reduceIte, reduceCtorEq, ↓reduceDIte, Bool.false_eq_true, Bool.true_eq_false, ne_eq, not_true_eq_false, not_false_eq_true, Bool.true_or, Bool.false_or, Bool.or_true, Bool.or_false, Bool.true_and, Bool.false_and, Bool.and_true, Bool.and_false, Bool.not_true, Bool.not_false, Bool.not_eq_false', Bool.not_eq_true', and_true, true_and, and_false, false_and, or_true, true_or, or_false, false_or, and_self, or_self, decide_eq_true_eq, decide_true, decide_false, decide_eq_false_iff_not, ite_not, if_true, if_false, eq_self]
      exact h3
    | false =>
      rw [hq] at hpv
      have h1 : (v :: rest).filter (fun x => !p x) = v :: rest.filter fun x => !p x := by simp [hq]
      obtain ⟨j0, junk0, hje⟩ := List.exists_cons_of_ne_nil hj
      have hjl : junk.length = junk0.length + 1 := by rw [hje]; rfl
      obtain ⟨junk', h2, h3⟩ := loop_106 p g cs hC hg rest (kept ++ [v]) (junk0 ++ [v]) (by simp) (by simp; omega) (fun x hx => hp x (by simp [hx]))
      rw [h1]
      have e0 : (kept ++ [v]) ++ rest.filter (fun x => !p x) = kept ++ v :: rest.filter fun x => !p x := by simp
      rw [e0] at h2 h3
      refine ⟨junk', by rw [← h2]; simp; omega, ?_⟩
      have e1 : (kept ++ [v]) ++ (junk0 ++ [v]) ++ rest = kept ++ v :: junk0 ++ v :: rest := by simp
      have e2 : (kept ++ [v]).length + (junk0 ++ [v]).length = kept.length + junk.length + 1 := by simp; omega
      have e3 : kept.length + junk.length + 1 + rest.length = kept.length + junk.length + (v :: rest).length := by simp; omega
      have e4 : (kept ++ [v]).length = kept.length + 1 := by simp
      rw [e1, e2, e3, e4] at h3
      have hlt2 : kept.length < (kept ++ junk ++ v :: rest).length := by rw [hl]; omega
      have hset : (kept ++ junk ++ v :: rest).set kept.length v = kept ++ v :: junk0 ++ v :: rest := by rw [hje]; simp
      have hw2 : IntKind.i64.wrap ((kept.length : Int) + 1) = ((kept.length + 1 : Nat) : Int) := by rw [wrap_i] <;> omega
      simp -implicitDefEqProofs only [lt_cast hlt, lt_cast hlt2, zero_le_cast, Int.toNat_natCast, hv, hw, hw2, hpv, hset, hC.args, hC.own, hC.ow, hC.arg, hC.mapR, hC.leads, hg, go_sem, Nat.reduceAdd, Nat.reduceSub, Nat.reduceMul, Nat.reduceMod, Nat.reduceLT, Nat.reduceLeDiff, Nat.reduceEqDiff, Nat.reduceBEq, Nat.reduceDiv, Int.reduceLT, Int.reduceLE, Int.reduceToNat, Int.reduceNeg, Int.reduceEq, ↓reduceIte, reduceCtorEq, ↓reduceDIte, Bool.false_eq_true, Bool.true_eq_false, ne_eq, not_true_eq_false, not_false_eq_true, Bool.true_or, Bool.false_or, Bool.or_true, Bool.or_false, Bool.true_and, Bool.false_and, Bool.and_true, Bool.and_false, Bool.not_true, Bool.not_false, Bool.not_eq_false', Bool.not_eq_true', and_true, true_and, and_false, false_and, or_true, true_or, or_false, false_or, and_self, or_self, decide_eq_true_eq, decide_true, decide_false, decide_eq_false_iff_not, ite_not, if_true, if_false, eq_self]
      exact h3
theorem copyIn_tail {α : Type} (xs ys : List α) (z : α) : copyIn (xs ++ ys) (List.replicate ((xs ++ ys).length - xs.length) z) xs.length ((xs ++ ys).length - xs.length) = xs ++ List.replicate ys.length z := by
  have h : (xs ++ ys).length - xs.length = ys.length := by simp
  unfold copyIn
  rw [h, List.take_left, List.take_of_length_le (by simp)]
  have : (xs ++ ys).drop (xs.length + (List.replicate ys.length z).length) = [] := by
    rw [List.drop_eq_nil_iff]; simp
  rw [this, List.append_nil]
theorem call_106 (p : Int → Bool) (g : Nat) (cs : List AV) (hC : Caps cs) (hg : pr.byref g = []) (ys : List Int) (hb : ys.length < 1000000000000000000) (hp : ∀ x ∈ ys, callOf pr g (I x :: cs) [] = some (B (p x), [])) :
    callOf pr 106 [.os (.t 1000000), .fn g cs] [(1000000, .arr false false (.int .i64) ys)] = if ys.any p = true then some (.sub (.t 1000000) 0 (ys.filter fun x => !p x).length, [(1000000, .arr false false (.int .i64) ((ys.filter fun x => !p x) ++ List.replicate (ys.length - (ys.filter fun x => !p x).length) 0))]) else some (.os (.t 1000000), [(1000000, .arr false false (.int .i64) ys)]) := by
  have h79 := call_128 ys hb p g cs hC hg hp
  rw [call_eq pr 106 _ _ Try.f106 fn_106 _ rfl _ ann_106 rfl]
  cases hf : ys.findIdx? p with
  | none =>
    rw [hf] at h79
    have hany : ys.any p = false := by
      rw [List.findIdx?_eq_none_iff] at hf
      simpa using hf
    simp -implicitDefEqProofs only [h79, hany, hC.args, hC.own, hC.ow, hC.arg, hC.mapR, hC.leads, hg, go_sem, Nat.reduceAdd, Nat.reduceSub, Nat.reduceMul, Nat.reduceMod, Nat.reduceLT, Nat.reduceLeDiff, Nat.reduceEqDiff, Nat.reduceBEq, Nat.reduceDiv, Int.reduceLT, Int.reduceLE, Int.reduceToNat, Int.reduceNeg, Int.reduceEq, ↓reduceIte, reduceCtorEq, ↓reduceDIte, Bool.false_eq_true, Bool.true_eq_false, ne_eq, not_true_eq_false, not_false_eq_true, Bool.true_or, Bool.false_or, Bool.or_true, Bool.or_false, Bool.true_and, Bool.false_and, Bool.and_true, Bool.and_false, Bool.not_true, Bool.not_false, Bool.not_eq_false', Bool.not_eq_true', and_true, true_and, and_false, false_and, or_true, true_or, or_false, false_or, and_self, or_self, decide_eq_true_eq, decide_true, decide_false, decide_eq_false_iff_not, ite_not, if_true, if_false, eq_self]
  | some i =>
    rw [hf] at h79
    rw [List.findIdx?_eq_some_iff_getElem] at hf
    obtain ⟨h1, h2, h3⟩ := hf
    have hany : ys.any p = true := List.any_eq_true.2 ⟨_, List.getElem_mem h1, h2⟩
    have hsplit : ys = ys.take i ++ [ys[i]] ++ ys.drop (i + 1) := by
      rw [List.append_assoc, List.singleton_append, ← List.drop_eq_getElem_cons h1, List.take_append_drop]
    have hpre : (ys.take i).filter (fun x => !p x) = ys.take i := by
      rw [List.filter_eq_self]
      intro x hx
      obtain ⟨j, hj, rfl⟩ := List.getElem_of_mem hx
      have hj' : j < i := by simp at hj; omega
      have := h3 j hj'
      simp only [List.getElem_take]
      simpa using this
    have hfil : ys.filter (fun x => !p x) = ys.take i ++ (ys.drop (i + 1)).filter fun x => !p x := by
      conv => lhs; rw [hsplit]
      rw [List.filter_append, List.filter_append, hpre]
      simp [h2]
    obtain ⟨junk', h4, h5⟩ := loop_106 p g cs hC hg (ys.drop (i + 1)) (ys.take i) [ys[i]] (by simp) (by rw [← hsplit]; exact hb) (fun x hx => hp x (List.mem_of_mem_drop hx))
    rw [← hsplit, ← hfil] at h5
    have e1 : (ys.take i).length = i := by simp; omega
    have e2 : (ys.take i).length + [ys[i]].length + (ys.drop (i + 1)).length = ys.length := by simp; omega
    rw [e2] at h4 h5
    rw [e1] at h5
    simp only [List.length_singleton] at h5
    rw [← hfil] at h4
    have hw : IntKind.i64.wrap ((i : Int) + 1) = ((i + 1 : Nat) : Int) := by rw [wrap_i] <;> omega
    have hne : ((i : Int) = -1) = False := fa (by omega)
    have hle : ((ys.filter fun x => !p x).length : Int) ≤ ((ys.filter fun x => !p x) ++ junk').length := by rw [List.length_append]; omega
    have hcp := copyIn_tail (ys.filter fun x => !p x) junk' (0 : Int)
    have hj : junk'.length = ys.length - (ys.filter fun x => !p x).length := by omega
    have hle2 : ((ys.filter fun x => !p x).length : Int) ≤ ((ys.filter fun x => !p x) ++ List.replicate junk'.length (0 : Int)).length := by rw [List.length_append]; omega
    rw [hj] at hle2
    simp -implicitDefEqProofs only [h79, hany, hC.args, hC.own, hC.ow, hC.arg, hC.mapR, hC.leads, hg, hne, hw, h5, zero_le_cast, tr hle, Int.le_refl, Int.toNat_natCast, hcp, tr hle2, Nat.sub_zero, hj, go_sem, Nat.reduceAdd, Nat.reduceSub, Nat.reduceMul, Nat.reduceMod, Nat.reduceLT, Nat.reduceLeDiff, Nat.reduceEqDiff, Nat.reduceBEq, Nat.reduceDiv, Int.reduceLT, Int.reduceLE, Int.reduceToNat, Int.reduceNeg, Int.reduceEq, ↓reduceIte, reduceCtorEq, ↓reduceDIte, Bool.false_eq_true, Bool.true_eq_false, ne_eq, not_true_eq_false, not_false_eq_true, Bool.true_or, Bool.false_or, Bool.or_true, Bool.or_false, Bool.true_and, Bool.false_and, Bool.and_true, Bool.and_false, Bool.not_true, Bool.not_false, Bool.not_eq_false', Bool.not_eq_true', and_true, true_and, and_false, false_and, or_true, true_or, or_false, false_or, and_self, or_self, decide_eq_true_eq, decide_true, decide_false, decide_eq_false_iff_not, ite_not, if_true, if_false, eq_self]

theorem those_all (f : Nat → Bool) (n : Nat) (p : Int → Bool) (hp : ∀ k, k < n → p (k : Int) = f k) : (those (fun _ => true) n).filter p = those f n := by
  unfold those
  rw [List.filter_map]
  have : (List.range n).filter (fun _ => true) = List.range n := by simp
  rw [this]
  congr 1
  apply List.filter_congr
  intro x hx
  exact hp x (List.mem_range.1 hx)
theorem those_mem {f : Nat → Bool} {n : Nat} {x : Int} (h : x ∈ those f n) : ∃ k : Nat, x = k ∧ k < n := by
  unfold those at h
  rw [List.mem_map] at h
  obtain ⟨k, hk, rfl⟩ := h
  exact ⟨k, rfl, List.mem_range.1 (List.mem_filter.1 hk).1⟩
theorem those_full_length (n : Nat) : (those (fun _ => true) n).length = n := by
  have : (List.range n).filter (fun _ => true) = List.range n := by rw [List.filter_eq_self]; exact fun _ _ => rfl
  unfold those
  rw [this]; simp

/-- The nodes with a property. -/
theorem call_100 (xs : List (List Int)) (hb : xs.length < 2000000) (h0 : 0 < xs.length) (f : Nat → Bool) (g : Nat) (cs : List AV) (hC : Caps cs) (hd : depNs cs ≤ 2) (hg : pr.byref g = []) (hp : ∀ k, k < xs.length → callOf pr g (I (k : Int) :: cs) [] = some (B (f k), [])) :
    callOf pr 100 [.agg [LL xs], .fn g cs] [] = some (.os (.t 512), [(512, .arr true false (.int .i64) (those f xs.length))]) := by
  have hC2 : Caps [AV.rp [.fn g cs]] := by
    obtain ⟨h1, h2⟩ := hC
    exact ⟨by simp [plainNs, plainN, h1], by simp [depNs, depN]; omega⟩
  have h75 := call_106 (fun x => !f x.toNat) 125 [.rp [.fn g cs]] hC2 rfl (those (fun _ => true) xs.length) (by rw [those_full_length]; omega) (fun x hx => by
    obtain ⟨k, rfl, hk⟩ := those_mem hx
    exact call_125 g cs hC hg k (f k) (hp k hk))
  have hfil : ((those (fun _ => true) xs.length).filter fun x => !!f x.toNat) = those f xs.length := those_all f _ _ (fun k _ => by simp)
  rw [hfil] at h75
  rw [call_eq pr 100 _ _ Try.f100 fn_100 _ rfl _ ann_100 rfl]
  by_cases ha : (those (fun _ => true) xs.length).any (fun x => !f x.toNat) = true
  · rw [if_pos ha] at h75
    have h1 : 0 + (those f xs.length).length ≤ (those f xs.length ++ List.replicate ((those (fun _ => true) xs.length).length - (those f xs.length).length) 0).length := by rw [List.length_append]; omega
    have h2 : 0 < (those f xs.length ++ List.replicate ((those (fun _ => true) xs.length).length - (those f xs.length).length) (0 : Int)).length := by
      have := those_length f xs.length
      rw [List.length_append, List.length_replicate, those_full_length]; omega
    simp -implicitDefEqProofs only [call_97, call_107 _ hb, hC.args, hC.own, hC.ow, hC.arg, hC.mapR, hC.leads, hg, h75, tr h1, tr h2, List.take_left, go_sem, Nat.reduceAdd, Nat.reduceSub, Nat.reduceMul, Nat.reduceMod, Nat.reduceLT, Nat.reduceLeDiff, Nat.reduceEqDiff, Nat.reduceBEq, Nat.reduceDiv, Int.reduceLT, Int.reduceLE, Int.reduceToNat, Int.reduceNeg, Int.reduceEq, ↓reduceIte, reduceCtorEq, ↓reduceDIte, Bool.false_eq_true, Bool.true_eq_false, ne_eq, not_true_eq_false, not_false_eq_true, Bool.true_or, Bool.false_or, Bool.or_true, Bool.or_false, Bool.true_and, Bool.false_and, Bool.and_true, Bool.and_false, Bool.not_true, Bool.not_false, Bool.not_eq_false', Bool.not_eq_true', and_true, true_and, and_false, false_and, or_true, true_or, or_false, false_or, and_self, or_self, decide_eq_true_eq, decide_true, decide_false, decide_eq_false_iff_not, ite_not, if_true, if_false, eq_self]
  · rw [if_neg ha] at h75
    have he : those (fun _ => true) xs.length = those f xs.length := by
      apply those_congr
      intro k hk
      have h3 : ∀ x ∈ those (fun _ => true) xs.length, f x.toNat = true := by
        intro x hx
        by_cases h4 : f x.toNat = true
        · exact h4
        · exact absurd (List.any_eq_true.2 ⟨x, hx, by simp [h4]⟩) ha
      have := h3 k (by unfold those; rw [List.mem_map]; exact ⟨k, by simp [hk], rfl⟩)
      simpa using this.symm
    rw [he] at h75
    have h76 := call_107 _ hb
    rw [he] at h76
    simp -implicitDefEqProofs only [call_97, h76, hC.args, hC.own, hC.ow, hC.arg, hC.mapR, hC.leads, hg, h75, go_sem, Nat.reduceAdd, Nat.reduceSub, Nat.reduceMul, Nat.reduceMod, Nat.reduceLT, Nat.reduceLeDiff, Nat.reduceEqDiff, Nat.reduceBEq, Nat.reduceDiv, Int.reduceLT, Int.reduceLE, Int.reduceToNat, Int.reduceNeg, Int.reduceEq, ↓reduceIte, reduceCtorEq, ↓reduceDIte, Bool.false_eq_true, Bool.true_eq_false, ne_eq, not_true_eq_false, not_false_eq_true, Bool.true_or, Bool.false_or, Bool.or_true, Bool.or_false, Bool.true_and, Bool.false_and, Bool.and_true, Bool.and_false, Bool.not_true, Bool.not_false, Bool.not_eq_false', Bool.not_eq_true', and_true, true_and, and_false, false_and, or_true, true_or, or_false, false_or, and_self, or_self, decide_eq_true_eq, decide_true, decide_false, decide_eq_false_iff_not, ite_not, if_true, if_false, eq_self]

theorem call_60 (xs : List (List Int)) (hb : xs.length < 2000000) (h0 : 0 < xs.length) : callOf pr 60 [.agg [LL xs]] [] = some (.os (.t 320), [(320, .arr true false (.int .i64) (those (isSrc xs) xs.length))]) := by
  have h := call_100 xs hb h0 (isSrc xs) 101 [.rp [LL xs]] ⟨rfl, of_decide_eq_true rfl⟩ (of_decide_eq_true rfl) rfl (fun k hk => call_101 xs k hk)
  rw [call_eq pr 60 _ _ Try.f60 fn_60 _ rfl _ ann_60 rfl]
  simp -implicitDefEqProofs only [h, go_sem, Nat.reduceAdd, Nat.reduceSub, Nat.reduceMul, Nat.reduceMod, Nat.reduceLT, Nat.reduceLeDiff, Nat.reduceEqDiff, Nat.reduceBEq, Nat.reduceDiv, Int.reduceLT, Int.reduceLE, Int.reduceToNat, Int.reduceNeg, Int.reduceEq, ↓reduceIte, reduceCtorEq, ↓reduceDIte, Bool.false_eq_true, Bool.true_eq_false, ne_eq, not_true_eq_false, not_false_eq_true, Bool.true_or, Bool.false_or, Bool.or_true, Bool.or_false, Bool.true_and, Bool.false_and, Bool.and_true, Bool.and_false, Bool.not_true, Bool.not_false, Bool.not_eq_false', Bool.not_eq_true', and_true, true_and, and_false, false_and, or_true, true_or, or_false, false_or, and_self, or_self, decide_eq_true_eq, decide_true, decide_false, decide_eq_false_iff_not, ite_not, if_true, if_false, eq_self]
end Go.Proofs.Ythhankjdpbbncaa.PI
