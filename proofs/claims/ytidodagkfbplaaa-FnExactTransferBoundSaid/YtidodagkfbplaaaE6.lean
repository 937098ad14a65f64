/- Copies and comparisons. -/
import Derived.Test.YtidodagkfbplaaaE5
namespace Go.Proofs.Ytidodagkfbplaaa.PI
open Go Go.Q
set_option maxRecDepth 100000
set_option maxHeartbeats 4000000
set_option linter.unusedSimpArgs false



theorem fill_step {α : Type} (xs : List α) (z : α) (k n : Nat) (h : k + (n + 1) = xs.length) (hlt : k < xs.length) : (xs.take k ++ List.replicate (n + 1) z).set k xs[k] = xs.take (k + 1) ++ List.replicate n z := by
  rw [List.replicate_succ, List.set_append_right _ _ (by simp; omega)]
  have : k - (xs.take k).length = 0 := by simp; omega
  rw [this, List.set_cons_zero, List.take_succ_eq_append_getElem hlt, List.append_assoc]
  rfl

theorem loop_63 (xs : List Int) (hb : xs.length < 1000000000000000000) : ∀ (n k : Nat), k + n = xs.length →
    loopOf pr 63 0 ⟨[(0, L xs), (3, .os (.t 448)), (4, I k)], [(448, .arr true false (.int .i64) (xs.take k ++ List.replicate n (0 : Int)))]⟩ = some (.exit 0, ⟨[(0, L xs), (3, .os (.t 448)), (4, I xs.length)], [(448, .arr true false (.int .i64) xs)]⟩)
  | 0, k, h => by
    have : k = xs.length := by omega
    subst this
    rw [loop_eq pr 63 0 _ Try.f63 fn_63 _ rfl _ ann_63 _ rfl]
    simp -implicitDefEqProofs only [Int.lt_irrefl, List.take_length, go_sem, Nat.reduceAdd, Nat.reduceSub, Nat.reduceMul, Nat.reduceMod, Nat.reduceLT, Nat.reduceLeDiff, Nat.reduceEqDiff, Nat.reduceBEq, Nat.reduceDiv, Int.reduceLT, Int.reduceLE, Int.reduceToNat, Int.reduceNeg, Int.reduceEq, ↓reduceIte, reduceCtorEq, ↓reduceDIte, Bool.false_eq_true, Bool.true_eq_false, ne_eq, not_true_eq_false, not_false_eq_true, Bool.true_or, Bool.false_or, Bool.or_true, Bool.or_false, Bool.true_and, Bool.false_and, Bool.and_true, Bool.and_false, Bool.not_true, Bool.not_false, Bool.not_eq_false', Bool.not_eq_true', and_true, true_and, and_false, false_and, or_true, true_or, or_false, false_or, and_self, or_self, decide_eq_true_eq, decide_true, decide_false, decide_eq_false_iff_not, ite_not, if_true, if_false, eq_self]
  | n + 1, k, h => by
    have hlt : k < xs.length := by omega
    have ih := loop_63 xs hb n (k + 1) (by omega)
    have hl : (xs.take k ++ List.replicate (n + 1) (0 : Int)).length = xs.length := by simp; omega
    have hf := fill_step xs 0 k n h hlt
    rw [loop_eq pr 63 0 _ Try.f63 fn_63 _ rfl _ ann_63 _ rfl]
    simp -implicitDefEqProofs only [lt_cast hlt, zero_le_cast, Int.toNat_natCast, wrap_succ hlt hb, getD_of_lt hlt, hl, hf, go_sem, Nat.reduceAdd, Nat.reduceSub, Nat.reduceMul, Nat.reduceMod, Nat.reduceLT, Nat.reduceLeDiff, Nat.reduceEqDiff, Nat.reduceBEq, Nat.reduceDiv, Int.reduceLT, Int.reduceLE, Int.reduceToNat, Int.reduceNeg, Int.reduceEq, ↓reduceIte, reduceCtorEq, ↓reduceDIte, Bool.false_eq_true, Bool.true_eq_false, ne_eq, not_true_eq_false, not_false_eq_true, Bool.true_or, Bool.false_or, Bool.or_true, Bool.or_false, Bool.true_and, Bool.false_and, Bool.and_true, Bool.and_false, Bool.not_true, Bool.not_false, Bool.not_eq_false', Bool.not_eq_true', and_true, true_and, and_false, false_and, or_true, true_or, or_false, false_or, and_self, or_self, decide_eq_true_eq, decide_true, decide_false, decide_eq_false_iff_not, ite_not, if_true, if_false, eq_self]
    exact ih

theorem call_63 (xs : List Int) (hb : xs.length ≤ 1000000000000) : callOf pr 63 [L xs] [] = some (.os (.t 448), [(448, .arr true false (.int .i64) xs)]) := by
  have h := loop_63 xs (by omega) xs.length 0 (by omega)
  have h : loopOf pr 63 0 ⟨[(0, L xs), (3, .os (.t 448)), (4, I 0)], [(448, .arr true false (.int .i64) (List.replicate xs.length (0 : Int)))]⟩ = _ := h
  have h1 : (((8 : Nat) : Int) * (xs.length : Int) ≤ 140737488355328) = True := by simp; omega
  have h2 : ((xs.length : Int) ≤ 9223372036854775807) = True := by simp; omega
  rw [call_eq pr 63 _ _ Try.f63 fn_63 _ rfl _ ann_63 rfl]
  simp -implicitDefEqProofs only [zero_le_cast, Int.le_refl, h1, h2, Int.toNat_natCast, h, go_sem, Nat.reduceAdd, Nat.reduceSub, Nat.reduceMul, Nat.reduceMod, Nat.reduceLT, Nat.reduceLeDiff, Nat.reduceEqDiff, Nat.reduceBEq, Nat.reduceDiv, Int.reduceLT, Int.reduceLE, Int.reduceToNat, Int.reduceNeg, Int.reduceEq, ↓reduceIte, reduceCtorEq, ↓reduceDIte, Bool.false_eq_true, Bool.true_eq_false, ne_eq, not_true_eq_false, not_false_eq_true, Bool.true_or, Bool.false_or, Bool.or_true, Bool.or_false, Bool.true_and, Bool.false_and, Bool.and_true, Bool.and_false, Bool.not_true, Bool.not_false, Bool.not_eq_false', Bool.not_eq_true', and_true, true_and, and_false, false_and, or_true, true_or, or_false, false_or, and_self, or_self, decide_eq_true_eq, decide_true, decide_false, decide_eq_false_iff_not, ite_not, if_true, if_false, eq_self]

theorem loop_35 (xs : List (List Int)) (hb : xs.length < 1000000000000000000) (hc : ∀ x ∈ xs, x.length ≤ 1000000000000) : ∀ (n k : Nat), k + n = xs.length →
    loopOf pr 35 0 ⟨[(0, LL xs), (3, .os (.t 448)), (4, I k)], [(448, .arr true true (.slice (.int .i64)) (xs.take k ++ List.replicate n ([] : List Int)))]⟩ = some (.exit 0, ⟨[(0, LL xs), (3, .os (.t 448)), (4, I xs.length)], [(448, .arr true true (.slice (.int .i64)) xs)]⟩)
  | 0, k, h => by
    have : k = xs.length := by omega
    subst this
    rw [loop_eq pr 35 0 _ Try.f35 fn_35 _ rfl _ ann_35 _ rfl]
    simp -implicitDefEqProofs only [Int.lt_irrefl, List.take_length, go_sem, Nat.reduceAdd, Nat.reduceSub, Nat.reduceMul, Nat.reduceMod, Nat.reduceLT, Nat.reduceLeDiff, Nat.reduceEqDiff, Nat.reduceBEq, Nat.reduceDiv, Int.reduceLT, Int.reduceLE, Int.reduceToNat, Int.reduceNeg, Int.reduceEq, ↓reduceIte, reduceCtorEq, ↓reduceDIte, Bool.false_eq_true, Bool.true_eq_false, ne_eq, not_true_eq_false, not_false_eq_true, Bool.true_or, Bool.false_or, Bool.or_true, Bool.or_false, Bool.true_and, Bool.false_and, Bool.and_true, Bool.and_false, Bool.not_true, Bool.not_false, Bool.not_eq_false', Bool.not_eq_true', and_true, true_and, and_false, false_and, or_true, true_or, or_false, false_or, and_self, or_self, decide_eq_true_eq, decide_true, decide_false, decide_eq_false_iff_not, ite_not, if_true, if_false, eq_self]
  | n + 1, k, h => by
    have hlt : k < xs.length := by omega
    have ih := loop_35 xs hb hc n (k + 1) (by omega)
    have hl : (xs.take k ++ List.replicate (n + 1) ([] : List Int)).length = xs.length := by simp; omega
    have hf := fill_step xs [] k n h hlt
    have hx := call_63 xs[k] (hc _ (List.getElem_mem hlt))
    rw [loop_eq pr 35 0 _ Try.f35 fn_35 _ rfl _ ann_35 _ rfl]
    simp -implicitDefEqProofs only [lt_cast hlt, zero_le_cast, Int.toNat_natCast, wrap_succ hlt hb, getD_of_lt hlt, hl, hx, hf, go_sem, Nat.reduceAdd, Nat.reduceSub, Nat.reduceMul, Nat.reduceMod, Nat.reduceLT, Nat.reduceLeDiff, Nat.reduceEqDiff, Nat.reduceBEq, Nat.reduceDiv, Int.reduceLT, Int.reduceLE, Int.reduceToNat, Int.reduceNeg, Int.reduceEq, ↓reduceIte, reduceCtorEq, ↓reduceDIte, Bool.false_eq_true, Bool.true_eq_false, ne_eq, not_true_eq_false, not_false_eq_true, Bool.true_or, Bool.false_or, Bool.or_true, Bool.or_false, Bool.true_and, Bool.false_and, Bool.and_true, Bool.and_false, Bool.not_true, Bool.not_false, Bool.not_eq_false', Bool.not_eq_true', and_true, true_and, and_false, false_and, or_true, true_or, or_false, false_or, and_self, or_self, decide_eq_true_eq, decide_true, decide_false, decide_eq_false_iff_not, ite_not, if_true, if_false, eq_self]
    exact ih

theorem call_35 (xs : List (List Int)) (hb : xs.length ≤ 1000000000000) (hc : ∀ x ∈ xs, x.length ≤ 1000000000000) : callOf pr 35 [LL xs] [] = some (.os (.t 448), [(448, .arr true true (.slice (.int .i64)) xs)]) := by
  have h := loop_35 xs (by omega) hc xs.length 0 (by omega)
  have h : loopOf pr 35 0 ⟨[(0, LL xs), (3, .os (.t 448)), (4, I 0)], [(448, .arr true true (.slice (.int .i64)) (List.replicate xs.length ([] : List Int)))]⟩ = _ := h
  have h1 : (((24 : Nat) : Int) * (xs.length : Int) ≤ 140737488355328) = True := by simp; omega
  have h2 : ((xs.length : Int) ≤ 9223372036854775807) = True := by simp; omega
  rw [call_eq pr 35 _ _ Try.f35 fn_35 _ rfl _ ann_35 rfl]
  simp -implicitDefEqProofs only [zero_le_cast, Int.le_refl, h1, h2, Int.toNat_natCast, h, go_sem, Nat.reduceAdd, Nat.reduceSub, Nat.reduceMul, Nat.reduceMod, Nat.reduceLT, Nat.reduceLeDiff, Nat.reduceEqDiff, Nat.reduceBEq, Nat.reduceDiv, Int.reduceLT, Int.reduceLE, Int.reduceToNat, Int.reduceNeg, Int.reduceEq, ↓reduceIte, reduceCtorEq, ↓reduceDIte, Bool.false_eq_true, Bool.true_eq_false, ne_eq, not_true_eq_false, not_false_eq_true, Bool.true_or, Bool.false_or, Bool.or_true, Bool.or_false, Bool.true_and, Bool.false_and, Bool.and_true, Bool.and_false, Bool.not_true, Bool.not_false, Bool.not_eq_false', Bool.not_eq_true', and_true, true_and, and_false, false_and, or_true, true_or, or_false, false_or, and_self, or_self, decide_eq_true_eq, decide_true, decide_false, decide_eq_false_iff_not, ite_not, if_true, if_false, eq_self]

theorem call_11 (xs : List (List Int)) (hb : xs.length ≤ 1000000000000) (hc : ∀ x ∈ xs, x.length ≤ 1000000000000) : callOf pr 11 [.agg [LL xs]] [] = some (.agg [.os (.t 384)], [(384, .arr true true (.slice (.int .i64)) xs)]) := by
  have h := call_35 xs hb hc
  rw [call_eq pr 11 _ _ Try.f11 fn_11 _ rfl _ ann_11 rfl]
  simp -implicitDefEqProofs only [h, go_sem, Nat.reduceAdd, Nat.reduceSub, Nat.reduceMul, Nat.reduceMod, Nat.reduceLT, Nat.reduceLeDiff, Nat.reduceEqDiff, Nat.reduceBEq, Nat.reduceDiv, Int.reduceLT, Int.reduceLE, Int.reduceToNat, Int.reduceNeg, Int.reduceEq, ↓reduceIte, reduceCtorEq, ↓reduceDIte, Bool.false_eq_true, Bool.true_eq_false, ne_eq, not_true_eq_false, not_false_eq_true, Bool.true_or, Bool.false_or, Bool.or_true, Bool.or_false, Bool.true_and, Bool.false_and, Bool.and_true, Bool.and_false, Bool.not_true, Bool.not_false, Bool.not_eq_false', Bool.not_eq_true', and_true, true_and, and_false, false_and, or_true, true_or, or_false, false_or, and_self, or_self, decide_eq_true_eq, decide_true, decide_false, decide_eq_false_iff_not, ite_not, if_true, if_false, eq_self]

theorem loop_25 (a b : List Int) (hl : a.length = b.length) (hb : a.length < 1000000000000000000) : ∀ (n k : Nat), k + n = a.length →
    ((∀ i, k ≤ i → i < a.length → a.getD i 0 = b.getD i 0) → loopOf pr 25 0 ⟨[(0, L a), (1, L b), (5, I k)], []⟩ = some (.exit 0, ⟨[(0, L a), (1, L b), (5, I a.length)], []⟩)) ∧
    ((¬ ∀ i, k ≤ i → i < a.length → a.getD i 0 = b.getD i 0) → loopOf pr 25 0 ⟨[(0, L a), (1, L b), (5, I k)], []⟩ = some (.ret, ⟨[(4, B false)], []⟩))
  | 0, k, h => by
    have : k = a.length := by omega
    subst this
    rw [all_done (Nat.le_refl _)]
    refine ⟨fun _ => ?_, fun h => absurd trivial h⟩
    rw [loop_eq pr 25 0 _ Try.f25 fn_25 _ rfl _ ann_25 _ rfl]
    simp -implicitDefEqProofs only [Int.lt_irrefl, go_sem, Nat.reduceAdd, Nat.reduceSub, Nat.reduceMul, Nat.reduceMod, Nat.reduceLT, Nat.reduceLeDiff, Nat.reduceEqDiff, Nat.reduceBEq, Nat.reduceDiv, Int.reduceLT, Int.reduceLE, Int.reduceToNat, Int.reduceNeg, Int.reduceEq, ↓reduceIte, reduceCtorEq, ↓reduceDIte, Bool.false_eq_true, Bool.true_eq_false, ne_eq, not_true_eq_false, not_false_eq_true, Bool.true_or, Bool.false_or, Bool.or_true, Bool.or_false, Bool.true_and, Bool.false_and, Bool.and_true, Bool.and_false, Bool.not_true, Bool.not_false, Bool.not_eq_false', Bool.not_eq_true', and_true, true_and, and_false, false_and, or_true, true_or, or_false, false_or, and_self, or_self, decide_eq_true_eq, decide_true, decide_false, decide_eq_false_iff_not, ite_not, if_true, if_false, eq_self]
  | n + 1, k, h => by
    have hlt : k < a.length := by omega
    have hlt' : k < b.length := by omega
    have ih := loop_25 a b hl hb n (k + 1) (by omega)
    rw [all_step hlt, loop_eq pr 25 0 _ Try.f25 fn_25 _ rfl _ ann_25 _ rfl]
    by_cases hq : a.getD k 0 = b.getD k 0
    · have hq' : (a.getD k 0 = b.getD k 0) = True := by simp only [hq]
      simp -implicitDefEqProofs only [lt_cast hlt, lt_cast hlt', zero_le_cast, Int.toNat_natCast, wrap_succ hlt hb, hq', go_sem, Nat.reduceAdd, Nat.reduceSub, Nat.reduceMul, Nat.reduceMod, Nat.reduceLT, Nat.reduceLeDiff, Nat.reduceEqDiff, Nat.reduceBEq, Nat.reduceDiv, Int.reduceLT, Int.reduceLE, Int.reduceToNat, Int.reduceNeg, Int.reduceEq, ↓reduceIte, reduceCtorEq, ↓reduceDIte, Bool.false_eq_true, Bool.true_eq_false, ne_eq, not_true_eq_false, not_false_eq_true, Bool.true_or, Bool.false_or, Bool.or_true, Bool.or_false, Bool.true_and, Bool.false_and, Bool.and_true, Bool.and_false, Bool.not_true, Bool.not_false, Bool.not_eq_false', Bool.not_eq_true', and_true, true_and, and_false, false_and, or_true, true_or, or_false, false_or, and_self, or_self, decide_eq_true_eq, decide_true, decide_false, decide_eq_false_iff_not, ite_not, if_true, if_false, eq_self]
      exact ih
    · have hq' : (a.getD k 0 = b.getD k 0) = False := by simp only [hq]
      simp -implicitDefEqProofs only [lt_cast hlt, lt_cast hlt', zero_le_cast, Int.toNat_natCast, wrap_succ hlt hb, hq', go_sem, Nat.reduceAdd, Nat.reduceSub, Nat.reduceMul, Nat.reduceMod, Nat.reduceLT, Nat.reduceLeDiff, Nat.reduceEqDiff, Nat.reduceBEq, Nat.reduceDiv, Int.reduceLT, Int.reduceLE, Int.reduceToNat, Int.reduceNeg, Int.reduceEq, ↓reduceIte, reduceCtorEq, ↓reduceDIte, Bool.false_eq_true, Bool.true_eq_false, ne_eq, not_true_eq_false, not_false_eq_true, Bool.true_or, Bool.false_or, Bool.or_true, Bool.or_false, Bool.true_and, Bool.false_and, Bool.and_true, Bool.and_false, Bool.not_true, Bool.not_false, Bool.not_eq_false', Bool.not_eq_true', and_true, true_and, and_false, false_and, or_true, true_or, or_false, false_or, and_self, or_self, decide_eq_true_eq, decide_true, decide_false, decide_eq_false_iff_not, ite_not, if_true, if_false, eq_self]
      simp only [false_implies, not_false_eq_true, true_implies, true_and]

theorem ext_getD {α : Type} {a b : List α} {d : α} (hl : a.length = b.length) (h : ∀ i, 0 ≤ i → i < a.length → a.getD i d = b.getD i d) : a = b := by
  apply List.ext_getElem hl
  intro i h1 h2
  have := h i (Nat.zero_le _) h1
  rwa [getD_of_lt h1, getD_of_lt h2] at this

theorem call_25 (a b : List Int) (hb : a.length < 1000000000000000000) : callOf pr 25 [L a, L b] [] = some (B (decide (a = b)), []) := by
  rw [call_eq pr 25 _ _ Try.f25 fn_25 _ rfl _ ann_25 rfl]
  by_cases hl : a.length = b.length
  · have hl' : ((a.length : Int) = (b.length : Int)) = True := by simp [hl]
    obtain ⟨h1, h2⟩ := loop_25 a b hl hb a.length 0 (by omega)
    by_cases he : a = b
    · have h : loopOf pr 25 0 ⟨[(0, L a), (1, L b), (5, I 0)], []⟩ = _ := h1 (fun _ _ _ => by rw [he])
      have he' : decide (a = b) = true := by simp [he]
      simp -implicitDefEqProofs only [hl', h, he', go_sem, Nat.reduceAdd, Nat.reduceSub, Nat.reduceMul, Nat.reduceMod, Nat.reduceLT, Nat.reduceLeDiff, Nat.reduceEqDiff, Nat.reduceBEq, Nat.reduceDiv, Int.reduceLT, Int.reduceLE, Int.reduceToNat, Int.reduceNeg, Int.reduceEq, ↓reduceIte, reduceCtorEq, ↓reduceDIte, Bool.false_eq_true, Bool.true_eq_false, ne_eq, not_true_eq_false, not_false_eq_true, Bool.true_or, Bool.false_or, Bool.or_true, Bool.or_false, Bool.true_and, Bool.false_and, Bool.and_true, Bool.and_false, Bool.not_true, Bool.not_false, Bool.not_eq_false', Bool.not_eq_true', and_true, true_and, and_false, false_and, or_true, true_or, or_false, false_or, and_self, or_self, decide_eq_true_eq, decide_true, decide_false, decide_eq_false_iff_not, ite_not, if_true, if_false, eq_self]
    · have h : loopOf pr 25 0 ⟨[(0, L a), (1, L b), (5, I 0)], []⟩ = _ := h2 (fun h => he (ext_getD hl h))
      have he' : decide (a = b) = false := by simp [he]
      simp -implicitDefEqProofs only [hl', h, he', go_sem, Nat.reduceAdd, Nat.reduceSub, Nat.reduceMul, Nat.reduceMod, Nat.reduceLT, Nat.reduceLeDiff, Nat.reduceEqDiff, Nat.reduceBEq, Nat.reduceDiv, Int.reduceLT, Int.reduceLE, Int.reduceToNat, Int.reduceNeg, Int.reduceEq, ↓reduceIte, reduceCtorEq, ↓reduceDIte, Bool.false_eq_true, Bool.true_eq_false, ne_eq, not_true_eq_false, not_false_eq_true, Bool.true_or, Bool.false_or, Bool.or_true, Bool.or_false, Bool.true_and, Bool.false_and, Bool.and_true, Bool.and_false, Bool.not_true, Bool.not_false, Bool.not_eq_false', Bool.not_eq_true', and_true, true_and, and_false, false_and, or_true, true_or, or_false, false_or, and_self, or_self, decide_eq_true_eq, decide_true, decide_false, decide_eq_false_iff_not, ite_not, if_true, if_false, eq_self]
  · have hl' : ((a.length : Int) = (b.length : Int)) = False := by simp; omega
    have he' : decide (a = b) = false := by simp; rintro rfl; exact hl rfl
    simp -implicitDefEqProofs only [hl', he', go_sem, Nat.reduceAdd, Nat.reduceSub, Nat.reduceMul, Nat.reduceMod, Nat.reduceLT, Nat.reduceLeDiff, Nat.reduceEqDiff, Nat.reduceBEq, Nat.reduceDiv, Int.reduceLT, Int.reduceLE, Int.reduceToNat, Int.reduceNeg, Int.reduceEq, ↓reduceIte, reduceCtorEq, ↓reduceDIte, Bool.false_eq_true, Bool.true_eq_false, ne_eq, not_true_eq_false, not_false_eq_true, Bool.true_or, Bool.false_or, Bool.or_true, Bool.or_false, Bool.true_and, Bool.false_and, Bool.and_true, Bool.and_false, Bool.not_true, Bool.not_false, Bool.not_eq_false', Bool.not_eq_true', and_true, true_and, and_false, false_and, or_true, true_or, or_false, false_or, and_self, or_self, decide_eq_true_eq, decide_true, decide_false, decide_eq_false_iff_not, ite_not, if_true, if_false, eq_self]

theorem loop_40 (a b : List (List Int)) (hl : a.length = b.length) (hb : a.length < 1000000000000000000) (hc : ∀ x ∈ a, x.length < 1000000000000000000) : ∀ (n k : Nat), k + n = a.length →
    ((∀ i, k ≤ i → i < a.length → a.getD i [] = b.getD i []) → loopOf pr 40 0 ⟨[(0, LL a), (1, LL b), (5, I k)], []⟩ = some (.exit 0, ⟨[(0, LL a), (1, LL b), (5, I a.length)], []⟩)) ∧
    ((¬ ∀ i, k ≤ i → i < a.length → a.getD i [] = b.getD i []) → loopOf pr 40 0 ⟨[(0, LL a), (1, LL b), (5, I k)], []⟩ = some (.ret, ⟨[(4, B false)], []⟩))
  | 0, k, h => by
    have : k = a.length := by omega
    subst this
    rw [all_done (Nat.le_refl _)]
    refine ⟨fun _ => ?_, fun h => absurd trivial h⟩
    rw [loop_eq pr 40 0 _ Try.f40 fn_40 _ rfl _ ann_40 _ rfl]
    simp -implicitDefEqProofs only [Int.lt_irrefl, go_sem, Nat.reduceAdd, Nat.reduceSub, Nat.reduceMul, Nat.reduceMod, Nat.reduceLT, Nat.reduceLeDiff, Nat.reduceEqDiff, Nat.reduceBEq, Nat.reduceDiv, Int.reduceLT, Int.reduceLE, Int.reduceToNat, Int.reduceNeg, Int.reduceEq, ↓reduceIte, reduceCtorEq, ↓reduceDIte, Bool.false_eq_true, Bool.true_eq_false, ne_eq, not_true_eq_false, not_false_eq_true, Bool.true_or, Bool.false_or, Bool.or_true, Bool.or_false, Bool.true_and, Bool.false_and, Bool.and_true, Bool.and_false, Bool.not_true, Bool.not_false, Bool.not_eq_false', Bool.not_eq_true', and_true, true_and, and_false, false_and, or_true, true_or, or_false, false_or, and_self, or_self, decide_eq_true_eq, decide_true, decide_false, decide_eq_false_iff_not, ite_not, if_true, if_false, eq_self]
  | n + 1, k, h => by
    have hlt : k < a.length := by omega
    have hlt' : k < b.length := by omega
    have hx : (a.getD k []).length < 1000000000000000000 := by rw [getD_of_lt hlt]; exact hc _ (List.getElem_mem hlt)
    have ih := loop_40 a b hl hb hc n (k + 1) (by omega)
    rw [all_step hlt, loop_eq pr 40 0 _ Try.f40 fn_40 _ rfl _ ann_40 _ rfl]
    by_cases hq : a.getD k [] = b.getD k []
    · have hq' : (a.getD k [] = b.getD k []) = True := by simp only [hq]
      simp -implicitDefEqProofs only [lt_cast hlt, lt_cast hlt', zero_le_cast, Int.toNat_natCast, wrap_succ hlt hb, call_25 _ _ hx, hq', go_sem, Nat.reduceAdd, Nat.reduceSub, Nat.reduceMul, Nat.reduceMod, Nat.reduceLT, Nat.reduceLeDiff, Nat.reduceEqDiff, Nat.reduceBEq, Nat.reduceDiv, Int.reduceLT, Int.reduceLE, Int.reduceToNat, Int.reduceNeg, Int.reduceEq, ↓reduceIte, reduceCtorEq, ↓reduceDIte, Bool.false_eq_true, Bool.true_eq_false, ne_eq, not_true_eq_false, not_false_eq_true, Bool.true_or, Bool.false_or, Bool.or_true, Bool.or_false, Bool.true_and, Bool.false_and, Bool.and_true, Bool.and_false, Bool.not_true, Bool.not_false, Bool.not_eq_false', Bool.not_eq_true', and_true, true_and, and_false, false_and, or_true, true_or, or_false, false_or, and_self, or_self, decide_eq_true_eq, decide_true, decide_false, decide_eq_false_iff_not, ite_not, if_true, if_false, eq_self]
      exact ih
    · have hq' : (a.getD k [] = b.getD k []) = False := by simp only [hq]
      simp -implicitDefEqProofs only [lt_cast hlt, lt_cast hlt', zero_le_cast, Int.toNat_natCast, wrap_succ hlt hb, call_25 _ _ hx, hq', go_sem, Nat.reduceAdd, Nat.reduceSub, Nat.reduceMul, Nat.reduceMod, Nat.reduceLT, Nat.reduceLeDiff, Nat.reduceEqDiff, Nat.reduceBEq, Nat.reduceDiv, Int.reduceLT, Int.reduceLE, Int.reduceToNat, Int.reduceNeg, Int.reduceEq, ↓reduceIte, reduceCtorEq, ↓reduceDIte, Bool.false_eq_true, Bool.true_eq_false, ne_eq, not_true_eq_false, not_false_eq_true, Bool.true_or, Bool.false_or, Bool.or_true, Bool.or_false, Bool.true_and, Bool.false_and, Bool.and_true, Bool.and_false, Bool.not_true, Bool.not_false, Bool.not_eq_false', Bool.not_eq_true', and_true, true_and, and_false, false_and, or_true, true_or, or_false, false_or, and_self, or_self, decide_eq_true_eq, decide_true, decide_false, decide_eq_false_iff_not, ite_not, if_true, if_false, eq_self]
      simp only [false_implies, not_false_eq_true, true_implies, true_and]

theorem call_40 (a b : List (List Int)) (hb : a.length < 1000000000000000000) (hc : ∀ x ∈ a, x.length < 1000000000000000000) : callOf pr 40 [LL a, LL b] [] = some (B (decide (a = b)), []) := by
  rw [call_eq pr 40 _ _ Try.f40 fn_40 _ rfl _ ann_40 rfl]
  by_cases hl : a.length = b.length
  · have hl' : ((a.length : Int) = (b.length : Int)) = True := by simp [hl]
    obtain ⟨h1, h2⟩ := loop_40 a b hl hb hc a.length 0 (by omega)
    by_cases he : a = b
    · have h : loopOf pr 40 0 ⟨[(0, LL a), (1, LL b), (5, I 0)], []⟩ = _ := h1 (fun _ _ _ => by rw [he])
      have he' : decide (a = b) = true := by simp [he]
      simp -implicitDefEqProofs only [hl', h, he', go_sem, Nat.reduceAdd, Nat.reduceSub, Nat.reduceMul, Nat.reduceMod, Nat.reduceLT, Nat.reduceLeDiff, Nat.reduceEqDiff, Nat.reduceBEq, Nat.reduceDiv, Int.reduceLT, Int.reduceLE, Int.reduceToNat, Int.reduceNeg, Int.reduceEq, ↓reduceIte, reduceCtorEq, ↓reduceDIte, Bool.false_eq_true, Bool.true_eq_false, ne_eq, not_true_eq_false, not_false_eq_true, Bool.true_or, Bool.false_or, Bool.or_true, Bool.or_false, Bool.true_and, Bool.false_and, Bool.and_true, Bool.and_false, Bool.not_true, Bool.not_false, Bool.not_eq_false', Bool.not_eq_true', and_true, true_and, and_false, false_and, or_true, true_or, or_false, false_or, and_self, or_self, decide_eq_true_eq, decide_true, decide_false, decide_eq_false_iff_not, ite_not, if_true, if_false, eq_self]
    · have h : loopOf pr 40 0 ⟨[(0, LL a), (1, LL b), (5, I 0)], []⟩ = _ := h2 (fun h => he (ext_getD hl h))
      have he' : decide (a = b) = false := by simp [he]
      simp -implicitDefEqProofs only [hl', h, he', go_sem, Nat.reduceAdd, Nat.reduceSub, Nat.reduceMul, Nat.reduceMod, Nat.reduceLT, Nat.reduceLeDiff, Nat.reduceEqDiff, Nat.reduceBEq, Nat.reduceDiv, Int.reduceLT, Int.reduceLE, Int.reduceToNat, Int.reduceNeg, Int.reduceEq, ↓reduceIte, reduceCtorEq, ↓reduceDIte, Bool.false_eq_true, Bool.true_eq_false, ne_eq, not_true_eq_false, not_false_eq_true, Bool.true_or, Bool.false_or, Bool.or_true, Bool.or_false, Bool.true_and, Bool.false_and, Bool.and_true, Bool.and_false, Bool.not_true, Bool.not_false, Bool.not_eq_false', Bool.not_eq_true', and_true, true_and, and_false, false_and, or_true, true_or, or_false, false_or, and_self, or_self, decide_eq_true_eq, decide_true, decide_false, decide_eq_false_iff_not, ite_not, if_true, if_false, eq_self]
  · have hl' : ((a.length : Int) = (b.length : Int)) = False := by simp; omega
    have he' : decide (a = b) = false := by simp; rintro rfl; exact hl rfl
    simp -implicitDefEqProofs only [hl', he', go_sem, Nat.reduceAdd, Nat.reduceSub, Nat.reduceMul, Nat.reduceMod, Nat.reduceLT, Nat.reduceLeDiff, Nat.reduceEqDiff, Nat.reduceBEq, Nat.reduceDiv, Int.reduceLT, Int.reduceLE, Int.reduceToNat, Int.reduceNeg, Int.reduceEq, ↓reduceIte, reduceCtorEq, ↓reduceDIte, Bool.false_eq_true, Bool.true_eq_false, ne_eq, not_true_eq_false, not_false_eq_true, Bool.true_or, Bool.false_or, Bool.or_true, Bool.or_false, Bool.true_and, Bool.false_and, Bool.and_true, Bool.and_false, Bool.not_true, Bool.not_false, Bool.not_eq_false', Bool.not_eq_true', and_true, true_and, and_false, false_and, or_true, true_or, or_false, false_or, and_self, or_self, decide_eq_true_eq, decide_true, decide_false, decide_eq_false_iff_not, ite_not, if_true, if_false, eq_self]

theorem call_13 (a b : List (List Int)) (hb : a.length < 1000000000000000000) (hc : ∀ x ∈ a, x.length < 1000000000000000000) : callOf pr 13 [.agg [LL a], .agg [LL b]] [] = some (B (decide (a = b)), []) := by
  rw [call_eq pr 13 _ _ Try.f13 fn_13 _ rfl _ ann_13 rfl]
  by_cases he : a = b
  · have he' : decide (a = b) = true := by simp [he]
    simp -implicitDefEqProofs only [call_40 a b hb hc, he', go_sem, Nat.reduceAdd, Nat.reduceSub, Nat.reduceMul, Nat.reduceMod, Nat.reduceLT, Nat.reduceLeDiff, Nat.reduceEqDiff, Nat.reduceBEq, Nat.reduceDiv, Int.reduceLT, Int.reduceLE, Int.reduceToNat, Int.reduceNeg, Int.reduceEq, ↓reduceIte, reduceCtorEq, ↓reduceDIte, Bool.false_eq_true, Bool.true_eq_false, ne_eq, not_true_eq_false, not_false_eq_true, Bool.true_or, Bool.false_or, Bool.or_true, Bool.or_false, Bool.true_and, Bool.false_and, Bool.and_true, Bool.and_false, Bool.not_true, Bool.not_false, Bool.not_eq_false', Bool.not_eq_true', and_true, true_and, and_false, false_and, or_true, true_or, or_false, false_or, and_self, or_self, decide_eq_true_eq, decide_true, decide_false, decide_eq_false_iff_not, ite_not, if_true, if_false, eq_self]
  · have he' : decide (a = b) = false := by simp [he]
    simp -implicitDefEqProofs only [call_40 a b hb hc, he', go_sem, Nat.reduceAdd, Nat.reduceSub, Nat.reduceMul, Nat.reduceMod, Nat.reduceLT, Nat.reduceLeDiff, Nat.reduceEqDiff, Nat.reduceBEq, Nat.reduceDiv, Int.reduceLT, Int.reduceLE, Int.reduceToNat, Int.reduceNeg, Int.reduceEq, ↓reduceIte, reduceCtorEq, ↓reduceDIte, Bool.false_eq_true, Bool.true_eq_false, ne_eq, not_true_eq_false, not_false_eq_true, Bool.true_or, Bool.false_or, Bool.or_true, Bool.or_false, Bool.true_and, Bool.false_and, Bool.and_true, Bool.and_false, Bool.not_true, Bool.not_false, Bool.not_eq_false', Bool.not_eq_true', and_true, true_and, and_false, false_and, or_true, true_or, or_false, false_or, and_self, or_self, decide_eq_true_eq, decide_true, decide_false, decide_eq_false_iff_not, ite_not, if_true, if_false, eq_self]
end Go.Proofs.Ytidodagkfbplaaa.PI
