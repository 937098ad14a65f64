/- Graphs: the reference's judgement. -/
import Derived.Test.YthhankjdpbbncaaStd
namespace Go.Proofs.Ythhankjdpbbncaa.PI
open Go Go.Q
set_option maxRecDepth 100000
set_option maxHeartbeats 4000000
set_option linter.unusedSimpArgs false
set_option linter.unusedVariables false

theorem call_112 (n lo hi : Int) : callOf pr 112 [I n, I lo, I hi] [] = some (B (decide (lo ≤ n ∧ n ≤ hi)), []) := by
  rw [call_eq pr 112 _ _ Try.f112 fn_112 _ rfl _ ann_112 rfl]
  simp -implicitDefEqProofs only [go_sem, Nat.reduceAdd, Nat.reduceSub, Nat.reduceMul, Nat.reduceMod, Nat.reduceLT, Nat.reduceLeDiff, Nat.reduceEqDiff, Nat.reduceBEq, Nat.reduceDiv, Int.reduceLT, Int.reduceLE, Int.reduceToNat, Int.reduceNeg, Int.reduceEq, ↓reduceIte, reduceCtorEq, ↓reduceDIte, Bool.false_eq_true, Bool.true_eq_false, ne_eq, not_true_eq_false, not_false_eq_true, Bool.true_or, Bool.false_or, Bool.or_true, Bool.or_false, Bool.true_and, Bool.false_and, Bool.and_true, Bool.and_false, Bool.not_true, Bool.not_false, Bool.not_eq_false', Bool.not_eq_true', and_true, true_and, and_false, false_and, or_true, true_or, or_false, false_or, and_self, or_self, decide_eq_true_eq, decide_true, decide_false, decide_eq_false_iff_not, ite_not, if_true, if_false, eq_self]
  by_cases h : lo ≤ n
  · simp [h]
  · simp [h]

/-- An element of a list that rises. -/
def riseAt (xs : List Int) (lo hi : Int) (i : Nat) : Prop := (lo ≤ xs.getD i 0 ∧ xs.getD i 0 ≤ hi) ∧ (0 < i → xs.getD (i - 1) 0 < xs.getD i 0)

instance (xs : List Int) (lo hi : Int) (i : Nat) : Decidable (riseAt xs lo hi i) := inferInstanceAs (Decidable ((lo ≤ xs.getD i 0 ∧ xs.getD i 0 ≤ hi) ∧ (0 < i → xs.getD (i - 1) 0 < xs.getD i 0)))

theorem loop_110 (xs : List Int) (lo hi : Int) (hb : xs.length < 1000000000000000000) : ∀ (n k : Nat), k + n = xs.length →
    ((∀ i, k ≤ i → i < xs.length → riseAt xs lo hi i) → loopOf pr 110 0 ⟨[(0, L xs), (1, I lo), (2, I hi), (7, I k)], []⟩ = some (.exit 0, ⟨[(0, L xs), (1, I lo), (2, I hi), (7, I xs.length)], []⟩)) ∧
    ((¬ ∀ i, k ≤ i → i < xs.length → riseAt xs lo hi i) → loopOf pr 110 0 ⟨[(0, L xs), (1, I lo), (2, I hi), (7, I k)], []⟩ = some (.ret, ⟨[(6, B false)], []⟩))
  | 0, k, h => by
    have : k = xs.length := by omega
    subst this
    refine ⟨fun _ => ?_, fun h => absurd (fun i h1 h2 => absurd h2 (by omega)) h⟩
    rw [loop_eq pr 110 0 _ Try.f110 fn_110 _ rfl _ ann_110 _ rfl]
    simp -implicitDefEqProofs only [Int.lt_irrefl, go_sem, Nat.reduceAdd, Nat.reduceSub, Nat.reduceMul, Nat.reduceMod, Nat.reduceLT, Nat.reduceLeDiff, Nat.reduceEqDiff, Nat.reduceBEq, Nat.reduceDiv, Int.reduceLT, Int.reduceLE, Int.reduceToNat, Int.reduceNeg, Int.reduceEq, ↓reduceIte, reduceCtorEq, ↓reduceDIte, Bool.false_eq_true, Bool.true_eq_false, ne_eq, not_true_eq_false, not_false_eq_true, Bool.true_or, Bool.false_or, Bool.or_true, Bool.or_false, Bool.true_and, Bool.false_and, Bool.and_true, Bool.and_false, Bool.not_true, Bool.not_false, Bool.not_eq_false', Bool.not_eq_true', and_true, true_and, and_false, false_and, or_true, true_or, or_false, false_or, and_self, or_self, decide_eq_true_eq, decide_true, decide_false, decide_eq_false_iff_not, ite_not, if_true, if_false, eq_self]
  | n + 1, k, h => by
    have hlt : k < xs.length := by omega
    have ih := loop_110 xs lo hi hb n (k + 1) (by omega)
    have hiff : (∀ i, k ≤ i → i < xs.length → riseAt xs lo hi i) ↔ riseAt xs lo hi k ∧ ∀ i, k + 1 ≤ i → i < xs.length → riseAt xs lo hi i := by
      constructor
      · exact fun h => ⟨h k (Nat.le_refl _) hlt, fun i h1 h2 => h i (by omega) h2⟩
      · rintro ⟨h1, h2⟩ i h3 h4
        by_cases e : i = k
        · subst e; exact h1
        · exact h2 i (by omega) h4
    rw [hiff, loop_eq pr 110 0 _ Try.f110 fn_110 _ rfl _ ann_110 _ rfl]
    by_cases hr : lo ≤ xs.getD k 0 ∧ xs.getD k 0 ≤ hi
    · have hr' : (lo ≤ xs.getD k 0 ∧ xs.getD k 0 ≤ hi) = True := by simp only [hr, and_self]
      by_cases hk : k = 0
      · subst hk
        have hk' : ((0 : Int) < ((0 : Nat) : Int)) = False := by simp
        simp -implicitDefEqProofs only [lt_cast hlt, zero_le_cast, Int.toNat_natCast, wrap_succ hlt hb, call_112, hr', hk', go_sem, Nat.reduceAdd, Nat.reduceSub, Nat.reduceMul, Nat.reduceMod, Nat.reduceLT, Nat.reduceLeDiff, Nat.reduceEqDiff, Nat.reduceBEq, Nat.reduceDiv, Int.reduceLT, Int.reduceLE, Int.reduceToNat, Int.reduceNeg, Int.reduceEq, ↓reduceIte, reduceCtorEq, ↓reduceDIte, Bool.false_eq_true, Bool.true_eq_false, ne_eq, not_true_eq_false, not_false_eq_true, Bool.true_or, Bool.false_or, Bool.or_true, Bool.or_false, Bool.true_and, Bool.false_and, Bool.and_true, Bool.and_false, Bool.not_true, Bool.not_false, Bool.not_eq_false', Bool.not_eq_true', and_true, true_and, and_false, false_and, or_true, true_or, or_false, false_or, and_self, or_self, decide_eq_true_eq, decide_true, decide_false, decide_eq_false_iff_not, ite_not, if_true, if_false, eq_self]
        have : riseAt xs lo hi 0 := ⟨hr, fun h => absurd h (by omega)⟩
        simp only [this, true_and]
        exact ih
      · have hk' : ((0 : Int) < (k : Int)) = True := by simp; omega
        have hw : IntKind.i64.wrap ((k : Int) - 1) = ((k - 1 : Nat) : Int) := by rw [wrap_i] <;> omega
        have hlt' : k - 1 < xs.length := by omega
        by_cases hq : xs.getD k 0 ≤ xs.getD (k - 1) 0
        · have hq' : (xs.getD k 0 ≤ xs.getD (k - 1) 0) = True := by simp only [hq]
          simp -implicitDefEqProofs only [lt_cast hlt, lt_cast hlt', zero_le_cast, Int.toNat_natCast, wrap_succ hlt hb, call_112, hr', hk', hw, hq', go_sem, Nat.reduceAdd, Nat.reduceSub, Nat.reduceMul, Nat.reduceMod, Nat.reduceLT, Nat.reduceLeDiff, Nat.reduceEqDiff, Nat.reduceBEq, Nat.reduceDiv, Int.reduceLT, Int.reduceLE, Int.reduceToNat, Int.reduceNeg, Int.reduceEq, ↓reduceIte, reduceCtorEq, ↓reduceDIte, Bool.false_eq_true, Bool.true_eq_false, ne_eq, not_true_eq_false, not_false_eq_true, Bool.true_or, Bool.false_or, Bool.or_true, Bool.or_false, Bool.true_and, Bool.false_and, Bool.and_true, Bool.and_false, Bool.not_true, Bool.not_false, Bool.not_eq_false', Bool.not_eq_true', and_true, true_and, and_false, false_and, or_true, true_or, or_false, false_or, and_self, or_self, decide_eq_true_eq, decide_true, decide_false, decide_eq_false_iff_not, ite_not, if_true, if_false, eq_self]
          have : ¬ riseAt xs lo hi k := fun h => by have := h.2 (by omega); omega
          simp only [this, false_and, not_false_eq_true, false_implies, true_implies, true_and]
        · have hq' : (xs.getD k 0 ≤ xs.getD (k - 1) 0) = False := by simp only [hq]
          simp -implicitDefEqProofs only [lt_cast hlt, lt_cast hlt', zero_le_cast, Int.toNat_natCast, wrap_succ hlt hb, call_112, hr', hk', hw, hq', go_sem, Nat.reduceAdd, Nat.reduceSub, Nat.reduceMul, Nat.reduceMod, Nat.reduceLT, Nat.reduceLeDiff, Nat.reduceEqDiff, Nat.reduceBEq, Nat.reduceDiv, Int.reduceLT, Int.reduceLE, Int.reduceToNat, Int.reduceNeg, Int.reduceEq, ↓reduceIte, reduceCtorEq, ↓reduceDIte, Bool.false_eq_true, Bool.true_eq_false, ne_eq, not_true_eq_false, not_false_eq_true, Bool.true_or, Bool.false_or, Bool.or_true, Bool.or_false, Bool.true_and, Bool.false_and, Bool.and_true, Bool.and_false, Bool.not_true, Bool.not_false, Bool.not_eq_false', Bool.not_eq_true', and_true, true_and, and_false, false_and, or_true, true_or, or_false, false_or, and_self, or_self, decide_eq_true_eq, decide_true, decide_false, decide_eq_false_iff_not, ite_not, if_true, if_false, eq_self]
          have : riseAt xs lo hi k := ⟨hr, fun _ => by omega⟩
          simp only [this, true_and]
          exact ih
    · have hr' : (lo ≤ xs.getD k 0 ∧ xs.getD k 0 ≤ hi) = False := by simp only [hr]
      simp -implicitDefEqProofs only [lt_cast hlt, zero_le_cast, Int.toNat_natCast, wrap_succ hlt hb, call_112, hr', go_sem, Nat.reduceAdd, Nat.reduceSub, Nat.reduceMul, Nat.reduceMod, Nat.reduceLT, Nat.reduceLeDiff, Nat.reduceEqDiff, Nat.reduceBEq, Nat.reduceDiv, Int.reduceLT, Int.reduceLE, Int.reduceToNat, Int.reduceNeg, Int.reduceEq, ↓reduceIte, reduceCtorEq, ↓reduceDIte, Bool.false_eq_true, Bool.true_eq_false, ne_eq, not_true_eq_false, not_false_eq_true, Bool.true_or, Bool.false_or, Bool.or_true, Bool.or_false, Bool.true_and, Bool.false_and, Bool.and_true, Bool.and_false, Bool.not_true, Bool.not_false, Bool.not_eq_false', Bool.not_eq_true', and_true, true_and, and_false, false_and, or_true, true_or, or_false, false_or, and_self, or_self, decide_eq_true_eq, decide_true, decide_false, decide_eq_false_iff_not, ite_not, if_true, if_false, eq_self]
      have : ¬ riseAt xs lo hi k := fun h => hr h.1
      simp only [this, false_and, not_false_eq_true, false_implies, true_implies, true_and]
/-- A list that rises. -/
def rises (xs : List Int) (lo hi : Int) : Bool := (List.range xs.length).all fun i => decide (riseAt xs lo hi i)
theorem rises_iff (xs : List Int) (lo hi : Int) : rises xs lo hi = true ↔ ∀ i, 0 ≤ i → i < xs.length → riseAt xs lo hi i := by
  simp [rises]

theorem call_110 (xs : List Int) (lo hi : Int) (hb : xs.length < 1000000000000000000) : callOf pr 110 [L xs, I lo, I hi] [] = some (B (rises xs lo hi), []) := by
  obtain ⟨h1, h2⟩ := loop_110 xs lo hi hb xs.length 0 (by omega)
  rw [call_eq pr 110 _ _ Try.f110 fn_110 _ rfl _ ann_110 rfl]
  by_cases hr : ∀ i, 0 ≤ i → i < xs.length → riseAt xs lo hi i
  · have h : loopOf pr 110 0 ⟨[(0, L xs), (1, I lo), (2, I hi), (7, I 0)], []⟩ = _ := h1 hr
    simp -implicitDefEqProofs only [h, (rises_iff xs lo hi).2 hr, go_sem, Nat.reduceAdd, Nat.reduceSub, Nat.reduceMul, Nat.reduceMod, Nat.reduceLT, Nat.reduceLeDiff, Nat.reduceEqDiff, Nat.reduceBEq, Nat.reduceDiv, Int.reduceLT, Int.reduceLE, Int.reduceToNat, Int.reduceNeg, Int.reduceEq, ↓reduceIte, reduceCtorEq, ↓reduceDIte, Bool.false_eq_true, Bool.true_eq_false, ne_eq, not_true_eq_false, not_false_eq_true, Bool.true_or, Bool.false_or, Bool.or_true, Bool.or_false, Bool.true_and, Bool.false_and, Bool.and_true, Bool.and_false, Bool.not_true, Bool.not_false, Bool.not_eq_false', Bool.not_eq_true', and_true, true_and, and_false, false_and, or_true, true_or, or_false, false_or, and_self, or_self, decide_eq_true_eq, decide_true, decide_false, decide_eq_false_iff_not, ite_not, if_true, if_false, eq_self]
  · have h := h2 hr
    have h : loopOf pr 110 0 ⟨[(0, L xs), (1, I lo), (2, I hi), (7, I 0)], []⟩ = _ := h
    have hf : rises xs lo hi = false := by
      rw [← Bool.not_eq_true]; exact fun e => hr ((rises_iff xs lo hi).1 e)
    simp -implicitDefEqProofs only [h, hf, go_sem, Nat.reduceAdd, Nat.reduceSub, Nat.reduceMul, Nat.reduceMod, Nat.reduceLT, Nat.reduceLeDiff, Nat.reduceEqDiff, Nat.reduceBEq, Nat.reduceDiv, Int.reduceLT, Int.reduceLE, Int.reduceToNat, Int.reduceNeg, Int.reduceEq, ↓reduceIte, reduceCtorEq, ↓reduceDIte, Bool.false_eq_true, Bool.true_eq_false, ne_eq, not_true_eq_false, not_false_eq_true, Bool.true_or, Bool.false_or, Bool.or_true, Bool.or_false, Bool.true_and, Bool.false_and, Bool.and_true, Bool.and_false, Bool.not_true, Bool.not_false, Bool.not_eq_false', Bool.not_eq_true', and_true, true_and, and_false, false_and, or_true, true_or, or_false, false_or, and_self, or_self, decide_eq_true_eq, decide_true, decide_false, decide_eq_false_iff_not, ite_not, if_true, if_false, eq_self]

theorem loop_66 (xs : List (List Int)) (hb : xs.length < 1000000000000000000) (hc : ∀ x ∈ xs, x.length < 1000000000000000000) : ∀ (n k : Nat), k + n = xs.length →
    ((∀ i, k ≤ i → i < xs.length → rises (xs.getD i []) 0 ((i : Int) - 1) = true) → loopOf pr 66 0 ⟨[(0, .rp [LL xs]), (3, I xs.length), (4, I k)], []⟩ = some (.exit 0, ⟨[(0, .rp [LL xs]), (3, I xs.length), (4, I xs.length)], []⟩)) ∧
    ((¬ ∀ i, k ≤ i → i < xs.length → rises (xs.getD i []) 0 ((i : Int) - 1) = true) → loopOf pr 66 0 ⟨[(0, .rp [LL xs]), (3, I xs.length), (4, I k)], []⟩ = some (.ret, ⟨[(2, B false)], []⟩))
  | 0, k, h => by
    have : k = xs.length := by omega
    subst this
    refine ⟨fun _ => ?_, fun h => absurd (fun i h1 h2 => absurd h2 (by omega)) h⟩
    rw [loop_eq pr 66 0 _ Try.f66 fn_66 _ rfl _ ann_66 _ rfl]
    simp -implicitDefEqProofs only [Int.lt_irrefl, go_sem, Nat.reduceAdd, Nat.reduceSub, Nat.reduceMul, Nat.reduceMod, Nat.reduceLT, Nat.reduceLeDiff, Nat.reduceEqDiff, Nat.reduceBEq, Nat.reduceDiv, Int.reduceLT, Int.reduceLE, Int.reduceToNat, Int.reduceNeg, Int.reduceEq, ↓reduceIte, reduceCtorEq, ↓reduceDIte, Bool.false_eq_true, Bool.true_eq_false, ne_eq, not_true_eq_false, not_false_eq_true, Bool.true_or, Bool.false_or, Bool.or_true, Bool.or_false, Bool.true_and, Bool.false_and, Bool.and_true, Bool.and_false, Bool.not_true, Bool.not_false, Bool.not_eq_false', Bool.not_eq_true', and_true, true_and, and_false, false_and, or_true, true_or, or_false, false_or, and_self, or_self, decide_eq_true_eq, decide_true, decide_false, decide_eq_false_iff_not, ite_not, if_true, if_false, eq_self]
  | n + 1, k, h => by
    have hlt : k < xs.length := by omega
    have ih := loop_66 xs hb hc n (k + 1) (by omega)
    have hiff : (∀ i, k ≤ i → i < xs.length → rises (xs.getD i []) 0 ((i : Int) - 1) = true) ↔ rises (xs.getD k []) 0 ((k : Int) - 1) = true ∧ ∀ i, k + 1 ≤ i → i < xs.length → rises (xs.getD i []) 0 ((i : Int) - 1) = true := by
      constructor
      · exact fun h => ⟨h k (Nat.le_refl _) hlt, fun i h1 h2 => h i (by omega) h2⟩
      · rintro ⟨h1, h2⟩ i h3 h4
        by_cases e : i = k
        · subst e; exact h1
        · exact h2 i (by omega) h4
    have hx : (xs.getD k []).length < 1000000000000000000 := by rw [getD_of_lt hlt]; exact hc _ (List.getElem_mem hlt)
    have hw : IntKind.i64.wrap ((k : Int) - 1) = (k : Int) - 1 := by rw [wrap_i] <;> omega
    rw [hiff, loop_eq pr 66 0 _ Try.f66 fn_66 _ rfl _ ann_66 _ rfl]
    cases hr : rises (xs.getD k []) 0 ((k : Int) - 1) with
    | true =>
      simp -implicitDefEqProofs only [lt_cast hlt, zero_le_cast, Int.toNat_natCast, wrap_succ hlt hb, hw, call_110 _ _ _ hx, hr, go_sem, Nat.reduceAdd, Nat.reduceSub, Nat.reduceMul, Nat.reduceMod, Nat.reduceLT, Nat.reduceLeDiff, Nat.reduceEqDiff, Nat.reduceBEq, Nat.reduceDiv, Int.reduceLT, Int.reduceLE, Int.reduceToNat, Int.reduceNeg, Int.reduceEq, ↓reduceIte, reduceCtorEq, ↓reduceDIte, Bool.false_eq_true, Bool.true_eq_false, ne_eq, not_true_eq_false, not_false_eq_true, Bool.true_or, Bool.false_or, Bool.or_true, Bool.or_false, Bool.true_and, Bool.false_and, Bool.and_true, Bool.and_false, Bool.not_true, Bool.not_false, Bool.not_eq_false', Bool.not_eq_true', and_true, true_and, and_false, false_and, or_true, true_or, or_false, false_or, and_self, or_self, decide_eq_true_eq, decide_true, decide_false, decide_eq_false_iff_not, ite_not, if_true, if_false, eq_self]
      exact ih
    | false =>
      simp -implicitDefEqProofs only [lt_cast hlt, zero_le_cast, Int.toNat_natCast, wrap_succ hlt hb, hw, call_110 _ _ _ hx, hr, go_sem, Nat.reduceAdd, Nat.reduceSub, Nat.reduceMul, Nat.reduceMod, Nat.reduceLT, Nat.reduceLeDiff, Nat.reduceEqDiff, Nat.reduceBEq, Nat.reduceDiv, Int.reduceLT, Int.reduceLE, Int.reduceToNat, Int.reduceNeg, Int.reduceEq, ↓reduceIte, reduceCtorEq, ↓reduceDIte, Bool.false_eq_true, Bool.true_eq_false, ne_eq, not_true_eq_false, not_false_eq_true, Bool.true_or, Bool.false_or, Bool.or_true, Bool.or_false, Bool.true_and, Bool.false_and, Bool.and_true, Bool.and_false, Bool.not_true, Bool.not_false, Bool.not_eq_false', Bool.not_eq_true', and_true, true_and, and_false, false_and, or_true, true_or, or_false, false_or, and_self, or_self, decide_eq_true_eq, decide_true, decide_false, decide_eq_false_iff_not, ite_not, if_true, if_false, eq_self]
      simp only [false_implies, not_false_eq_true, true_implies, true_and]

/-- The reference's judgement of a graph. -/
def specValid (xs : List (List Int)) : Bool := decide (1 ≤ xs.length ∧ xs.length ≤ 6) && (List.range xs.length).all fun i => rises (xs.getD i []) 0 ((i : Int) - 1)
theorem specValid_iff (xs : List (List Int)) : ((List.range xs.length).all fun i => rises (xs.getD i []) 0 ((i : Int) - 1)) = true ↔ ∀ i, 0 ≤ i → i < xs.length → rises (xs.getD i []) 0 ((i : Int) - 1) = true := by simp

theorem call_66 (xs : List (List Int)) (hb : xs.length < 1000000000000000000) (hc : ∀ x ∈ xs, x.length < 1000000000000000000) : callOf pr 66 [.rp [LL xs]] [] = some (B (specValid xs), []) := by
  obtain ⟨h1, h2⟩ := loop_66 xs hb hc xs.length 0 (by omega)
  rw [call_eq pr 66 _ _ Try.f66 fn_66 _ rfl _ ann_66 rfl]
  by_cases hn : (xs.length : Int) < 1
  · have hn' : ((xs.length : Int) < 1) = True := by simp only [hn]
    have : specValid xs = false := by
      have : ¬ 1 ≤ xs.length := by omega
      simp [specValid, this]
    simp -implicitDefEqProofs only [hn', this, go_sem, Nat.reduceAdd, Nat.reduceSub, Nat.reduceMul, Nat.reduceMod, Nat.reduceLT, Nat.reduceLeDiff, Nat.reduceEqDiff, Nat.reduceBEq, Nat.reduceDiv, Int.reduceLT, Int.reduceLE, Int.reduceToNat, Int.reduceNeg, Int.reduceEq, ↓reduceIte, reduceCtorEq, ↓reduceDIte, Bool.false_eq_true, Bool.true_eq_false, ne_eq, not_true_eq_false, not_false_eq_true, Bool.true_or, Bool.false_or, Bool.or_true, Bool.or_false, Bool.true_and, Bool.false_and, Bool.and_true, Bool.and_false, Bool.not_true, Bool.not_false, Bool.not_eq_false', Bool.not_eq_true', and_true, true_and, and_false, false_and, or_true, true_or, or_false, false_or, and_self, or_self, decide_eq_true_eq, decide_true, decide_false, decide_eq_false_iff_not, ite_not, if_true, if_false, eq_self]
  · have hn' : ((xs.length : Int) < 1) = False := by simp only [hn]
    by_cases hm : 6 < (xs.length : Int)
    · have hm' : (6 < (xs.length : Int)) = True := by simp only [hm]
      have : specValid xs = false := by
        have : ¬ xs.length ≤ 6 := by omega
        simp [specValid, this]
      simp -implicitDefEqProofs only [hn', hm', this, go_sem, Nat.reduceAdd, Nat.reduceSub, Nat.reduceMul, Nat.reduceMod, Nat.reduceLT, Nat.reduceLeDiff, Nat.reduceEqDiff, Nat.reduceBEq, Nat.reduceDiv, Int.reduceLT, Int.reduceLE, Int.reduceToNat, Int.reduceNeg, Int.reduceEq, ↓reduceIte, reduceCtorEq, ↓reduceDIte, Bool.false_eq_true, Bool.true_eq_false, ne_eq, not_true_eq_false, not_false_eq_true, Bool.true_or, Bool.false_or, Bool.or_true, Bool.or_false, Bool.true_and, Bool.false_and, Bool.and_true, Bool.and_false, Bool.not_true, Bool.not_false, Bool.not_eq_false', Bool.not_eq_true', and_true, true_and, and_false, false_and, or_true, true_or, or_false, false_or, and_self, or_self, decide_eq_true_eq, decide_true, decide_false, decide_eq_false_iff_not, ite_not, if_true, if_false, eq_self]
    · have hm' : (6 < (xs.length : Int)) = False := by simp only [hm]
      by_cases hr : ∀ i, 0 ≤ i → i < xs.length → rises (xs.getD i []) 0 ((i : Int) - 1) = true
      · have h : loopOf pr 66 0 ⟨[(0, .rp [LL xs]), (3, I xs.length), (4, I 0)], []⟩ = _ := h1 hr
        have : specValid xs = true := by
          unfold specValid
          rw [(specValid_iff xs).2 hr]
          have : 1 ≤ xs.length ∧ xs.length ≤ 6 := by omega
          simp [this]
        simp -implicitDefEqProofs only [hn', hm', h, this, go_sem, Nat.reduceAdd, Nat.reduceSub, Nat.reduceMul, Nat.reduceMod, Nat.reduceLT, Nat.reduceLeDiff, Nat.reduceEqDiff, Nat.reduceBEq, Nat.reduceDiv, Int.reduceLT, Int.reduceLE, Int.reduceToNat, Int.reduceNeg, Int.reduceEq, ↓reduceIte, reduceCtorEq, ↓reduceDIte, Bool.false_eq_true, Bool.true_eq_false, ne_eq, not_true_eq_false, not_false_eq_true, Bool.true_or, Bool.false_or, Bool.or_true, Bool.or_false, Bool.true_and, Bool.false_and, Bool.and_true, Bool.and_false, Bool.not_true, Bool.not_false, Bool.not_eq_false', Bool.not_eq_true', and_true, true_and, and_false, false_and, or_true, true_or, or_false, false_or, and_self, or_self, decide_eq_true_eq, decide_true, decide_false, decide_eq_false_iff_not, ite_not, if_true, if_false, eq_self]
      · have h := h2 hr
        have h : loopOf pr 66 0 ⟨[(0, .rp [LL xs]), (3, I xs.length), (4, I 0)], []⟩ = _ := h
        have : specValid xs = false := by
          unfold specValid
          have : ((List.range xs.length).all fun i => rises (xs.getD i []) 0 ((i : Int) - 1)) = false := by
            rw [← Bool.not_eq_true]; exact fun e => hr ((specValid_iff xs).1 e)
          simp only [this, Bool.and_false]
        simp -implicitDefEqProofs only [hn', hm', h, this, go_sem, Nat.reduceAdd, Nat.reduceSub, Nat.reduceMul, Nat.reduceMod, Nat.reduceLT, Nat.reduceLeDiff, Nat.reduceEqDiff, Nat.reduceBEq, Nat.reduceDiv, Int.reduceLT, Int.reduceLE, Int.reduceToNat, Int.reduceNeg, Int.reduceEq, ↓reduceIte, reduceCtorEq, ↓reduceDIte, Bool.false_eq_true, Bool.true_eq_false, ne_eq, not_true_eq_false, not_false_eq_true, Bool.true_or, Bool.false_or, Bool.or_true, Bool.or_false, Bool.true_and, Bool.false_and, Bool.and_true, Bool.and_false, Bool.not_true, Bool.not_false, Bool.not_eq_false', Bool.not_eq_true', and_true, true_and, and_false, false_and, or_true, true_or, or_false, false_or, and_self, or_self, decide_eq_true_eq, decide_true, decide_false, decide_eq_false_iff_not, ite_not, if_true, if_false, eq_self]

end Go.Proofs.Ythhankjdpbbncaa.PI
