/- The program's functions of the first law, the second part. -/
import Derived.Test.YtidodagkfbplaaaE4
namespace Go.Proofs.Ytidodagkfbplaaa.PI
open Go Go.Q
set_option maxRecDepth 100000
set_option maxHeartbeats 4000000
set_option linter.unusedSimpArgs false


theorem all_step {n k : Nat} {Q : Nat → Prop} (hlt : k < n) : (∀ i, k ≤ i → i < n → Q i) ↔ Q k ∧ ∀ i, k + 1 ≤ i → i < n → Q i := by
  constructor
  · exact fun h => ⟨h k (Nat.le_refl _) hlt, fun i h1 h2 => h i (by omega) h2⟩
  · rintro ⟨h1, h2⟩ i h3 h4
    by_cases e : i = k
    · subst e; exact h1
    · exact h2 i (by omega) h4
theorem all_done {n k : Nat} {Q : Nat → Prop} (hlt : n ≤ k) : (∀ i, k ≤ i → i < n → Q i) ↔ True := ⟨fun _ => trivial, fun _ i h1 h2 => absurd h2 (by omega)⟩

theorem loop_39 (xs : List Int) (hb : xs.length < 1000000000000000000) : ∀ (n k : Nat), xs.length - k = n → 1 ≤ k →
    ((∀ i, k ≤ i → i < xs.length → xs.getD (i - 1) 0 < xs.getD i 0) → ∃ j : Int, loopOf pr 39 0 ⟨[(0, L xs), (3, I k)], []⟩ = some (.exit 0, ⟨[(0, L xs), (3, I j)], []⟩)) ∧
    ((¬ ∀ i, k ≤ i → i < xs.length → xs.getD (i - 1) 0 < xs.getD i 0) → loopOf pr 39 0 ⟨[(0, L xs), (3, I k)], []⟩ = some (.ret, ⟨[(2, B false)], []⟩))
  | 0, k, h, hk => by
    have hlt : ((k : Int) < (xs.length : Int)) = False := by simp; omega
    rw [all_done (by omega)]
    refine ⟨fun _ => ⟨k, ?_⟩, fun h => absurd trivial h⟩
    rw [loop_eq pr 39 0 _ Try.f39 fn_39 _ rfl _ ann_39 _ rfl]
    simp -implicitDefEqProofs only [hlt, go_sem, Nat.reduceAdd, Nat.reduceSub, Nat.reduceMul, Nat.reduceMod, Nat.reduceLT, Nat.reduceLeDiff, Nat.reduceEqDiff, Nat.reduceBEq, Nat.reduceDiv, Int.reduceLT, Int.reduceLE, Int.reduceToNat, Int.reduceNeg, Int.reduceEq, ↓reduceIte, reduceCtorEq, ↓reduceDIte, Bool.false_eq_true, Bool.true_eq_false, ne_eq, not_true_eq_false, not_false_eq_true, Bool.true_or, Bool.false_or, Bool.or_true, Bool.or_false, Bool.true_and, Bool.false_and, Bool.and_true, Bool.and_false, Bool.not_true, Bool.not_false, Bool.not_eq_false', Bool.not_eq_true', and_true, true_and, and_false, false_and, or_true, true_or, or_false, false_or, and_self, or_self, decide_eq_true_eq, decide_true, decide_false, decide_eq_false_iff_not, ite_not, if_true, if_false, eq_self]
  | n + 1, k, h, hk => by
    have hlt : k < xs.length := by omega
    have hlt' : k - 1 < xs.length := by omega
    have hw : IntKind.i64.wrap ((k : Int) - 1) = ((k - 1 : Nat) : Int) := by rw [wrap_i] <;> omega
    have ih := loop_39 xs hb n (k + 1) (by omega) (by omega)
    rw [all_step hlt, loop_eq pr 39 0 _ Try.f39 fn_39 _ rfl _ ann_39 _ rfl]
    by_cases hq : xs.getD k 0 ≤ xs.getD (k - 1) 0
    · have hq' : (xs.getD k 0 ≤ xs.getD (k - 1) 0) = True := by simp only [hq]
      simp -implicitDefEqProofs only [lt_cast hlt, lt_cast hlt', zero_le_cast, Int.toNat_natCast, wrap_succ hlt hb, hw, hq', go_sem, Nat.reduceAdd, Nat.reduceSub, Nat.reduceMul, Nat.reduceMod, Nat.reduceLT, Nat.reduceLeDiff, Nat.reduceEqDiff, Nat.reduceBEq, Nat.reduceDiv, Int.reduceLT, Int.reduceLE, Int.reduceToNat, Int.reduceNeg, Int.reduceEq, ↓reduceIte, reduceCtorEq, ↓reduceDIte, Bool.false_eq_true, Bool.true_eq_false, ne_eq, not_true_eq_false, not_false_eq_true, Bool.true_or, Bool.false_or, Bool.or_true, Bool.or_false, Bool.true_and, Bool.false_and, Bool.and_true, Bool.and_false, Bool.not_true, Bool.not_false, Bool.not_eq_false', Bool.not_eq_true', and_true, true_and, and_false, false_and, or_true, true_or, or_false, false_or, and_self, or_self, decide_eq_true_eq, decide_true, decide_false, decide_eq_false_iff_not, ite_not, if_true, if_false, eq_self]
      have : ¬ xs.getD (k - 1) 0 < xs.getD k 0 := by omega
      simp only [this, false_and, not_false_eq_true, false_implies, true_implies, true_and]
    · have hq' : (xs.getD k 0 ≤ xs.getD (k - 1) 0) = False := by simp only [hq]
      simp -implicitDefEqProofs only [lt_cast hlt, lt_cast hlt', zero_le_cast, Int.toNat_natCast, wrap_succ hlt hb, hw, hq', go_sem, Nat.reduceAdd, Nat.reduceSub, Nat.reduceMul, Nat.reduceMod, Nat.reduceLT, Nat.reduceLeDiff, Nat.reduceEqDiff, Nat.reduceBEq, Nat.reduceDiv, Int.reduceLT, Int.reduceLE, Int.reduceToNat, Int.reduceNeg, Int.reduceEq, ↓reduceIte, reduceCtorEq, ↓reduceDIte, Bool.false_eq_true, Bool.true_eq_false, ne_eq, not_true_eq_false, not_false_eq_true, Bool.true_or, Bool.false_or, Bool.or_true, Bool.or_false, Bool.true_and, Bool.false_and, Bool.and_true, Bool.and_false, Bool.not_true, Bool.not_false, Bool.not_eq_false', Bool.not_eq_true', and_true, true_and, and_false, false_and, or_true, true_or, or_false, false_or, and_self, or_self, decide_eq_true_eq, decide_true, decide_false, decide_eq_false_iff_not, ite_not, if_true, if_false, eq_self]
      have : xs.getD (k - 1) 0 < xs.getD k 0 := by omega
      simp only [this, true_and]
      exact ih

def increasing (xs : List Int) : Bool := (List.range xs.length).all fun i => decide (1 ≤ i → xs.getD (i - 1) 0 < xs.getD i 0)
theorem increasing_iff (xs : List Int) : increasing xs = true ↔ ∀ i, 1 ≤ i → i < xs.length → xs.getD (i - 1) 0 < xs.getD i 0 := by
  simp only [increasing, List.all_eq_true, List.mem_range, decide_eq_true_eq]
  exact ⟨fun h i h1 h2 => h i h2 h1, fun h i h1 h2 => h i h2 h1⟩

theorem call_39 (xs : List Int) (hb : xs.length < 1000000000000000000) : callOf pr 39 [L xs] [] = some (B (increasing xs), []) := by
  obtain ⟨h1, h2⟩ := loop_39 xs hb (xs.length - 1) 1 rfl (Nat.le_refl _)
  rw [call_eq pr 39 _ _ Try.f39 fn_39 _ rfl _ ann_39 rfl]
  by_cases hr : ∀ i, 1 ≤ i → i < xs.length → xs.getD (i - 1) 0 < xs.getD i 0
  · obtain ⟨j, h⟩ := h1 hr
    have h : loopOf pr 39 0 ⟨[(0, L xs), (3, I 1)], []⟩ = _ := h
    simp -implicitDefEqProofs only [h, (increasing_iff xs).2 hr, go_sem, Nat.reduceAdd, Nat.reduceSub, Nat.reduceMul, Nat.reduceMod, Nat.reduceLT, Nat.reduceLeDiff, Nat.reduceEqDiff, Nat.reduceBEq, Nat.reduceDiv, Int.reduceLT, Int.reduceLE, Int.reduceToNat, Int.reduceNeg, Int.reduceEq, ↓reduceIte, reduceCtorEq, ↓reduceDIte, Bool.false_eq_true, Bool.true_eq_false, ne_eq, not_true_eq_false, not_false_eq_true, Bool.true_or, Bool.false_or, Bool.or_true, Bool.or_false, Bool.true_and, Bool.false_and, Bool.and_true, Bool.and_false, Bool.not_true, Bool.not_false, Bool.not_eq_false', Bool.not_eq_true', and_true, true_and, and_false, false_and, or_true, true_or, or_false, false_or, and_self, or_self, decide_eq_true_eq, decide_true, decide_false, decide_eq_false_iff_not, ite_not, if_true, if_false, eq_self]
  · have h : loopOf pr 39 0 ⟨[(0, L xs), (3, I 1)], []⟩ = _ := h2 hr
    have hf : increasing xs = false := by
      rw [← Bool.not_eq_true]; exact fun e => hr ((increasing_iff xs).1 e)
    simp -implicitDefEqProofs only [h, hf, go_sem, Nat.reduceAdd, Nat.reduceSub, Nat.reduceMul, Nat.reduceMod, Nat.reduceLT, Nat.reduceLeDiff, Nat.reduceEqDiff, Nat.reduceBEq, Nat.reduceDiv, Int.reduceLT, Int.reduceLE, Int.reduceToNat, Int.reduceNeg, Int.reduceEq, ↓reduceIte, reduceCtorEq, ↓reduceDIte, Bool.false_eq_true, Bool.true_eq_false, ne_eq, not_true_eq_false, not_false_eq_true, Bool.true_or, Bool.false_or, Bool.or_true, Bool.or_false, Bool.true_and, Bool.false_and, Bool.and_true, Bool.and_false, Bool.not_true, Bool.not_false, Bool.not_eq_false', Bool.not_eq_true', and_true, true_and, and_false, false_and, or_true, true_or, or_false, false_or, and_self, or_self, decide_eq_true_eq, decide_true, decide_false, decide_eq_false_iff_not, ite_not, if_true, if_false, eq_self]

/-- The program's judgement of one list. -/
def okAt (xs : List (List Int)) (i : Nat) : Bool := (!((xs.getD i []).any fun n => !decide (0 ≤ n ∧ n ≤ (i : Int) - 1))) && increasing (xs.getD i [])

theorem loop_12 (xs : List (List Int)) (hb : xs.length < 1000000000000000000) (hc : ∀ x ∈ xs, x.length < 1000000000000000000) : ∀ (n k : Nat), k + n = xs.length →
    ((∀ i, k ≤ i → i < xs.length → okAt xs i = true) → loopOf pr 12 0 ⟨[(11, LL xs), (12, I xs.length), (13, I k)], []⟩ = some (.exit 0, ⟨[(11, LL xs), (12, I xs.length), (13, I xs.length)], []⟩)) ∧
    ((¬ ∀ i, k ≤ i → i < xs.length → okAt xs i = true) → loopOf pr 12 0 ⟨[(11, LL xs), (12, I xs.length), (13, I k)], []⟩ = some (.ret, ⟨[(2, B false)], []⟩))
  | 0, k, h => by
    have : k = xs.length := by omega
    subst this
    rw [all_done (Nat.le_refl _)]
    refine ⟨fun _ => ?_, fun h => absurd trivial h⟩
    rw [loop_eq pr 12 0 _ Try.f12 fn_12 _ rfl _ ann_12 _ rfl]
    simp -implicitDefEqProofs only [Int.lt_irrefl, go_sem, Nat.reduceAdd, Nat.reduceSub, Nat.reduceMul, Nat.reduceMod, Nat.reduceLT, Nat.reduceLeDiff, Nat.reduceEqDiff, Nat.reduceBEq, Nat.reduceDiv, Int.reduceLT, Int.reduceLE, Int.reduceToNat, Int.reduceNeg, Int.reduceEq, ↓reduceIte, reduceCtorEq, ↓reduceDIte, Bool.false_eq_true, Bool.true_eq_false, ne_eq, not_true_eq_false, not_false_eq_true, Bool.true_or, Bool.false_or, Bool.or_true, Bool.or_false, Bool.true_and, Bool.false_and, Bool.and_true, Bool.and_false, Bool.not_true, Bool.not_false, Bool.not_eq_false', Bool.not_eq_true', and_true, true_and, and_false, false_and, or_true, true_or, or_false, false_or, and_self, or_self, decide_eq_true_eq, decide_true, decide_false, decide_eq_false_iff_not, ite_not, if_true, if_false, eq_self]
  | n + 1, k, h => by
    have hlt : k < xs.length := by omega
    have ih := loop_12 xs hb hc n (k + 1) (by omega)
    have hx : (xs.getD k []).length < 1000000000000000000 := by rw [getD_of_lt hlt]; exact hc _ (List.getElem_mem hlt)
    have hw : IntKind.i64.wrap ((k : Int) - 1) = (k : Int) - 1 := by rw [wrap_i] <;> omega
    rw [all_step hlt, loop_eq pr 12 0 _ Try.f12 fn_12 _ rfl _ ann_12 _ rfl]
    cases ha : (xs.getD k []).any fun n => !decide (0 ≤ n ∧ n ≤ (k : Int) - 1) with
    | true =>
      simp -implicitDefEqProofs only [lt_cast hlt, zero_le_cast, Int.toNat_natCast, wrap_succ hlt hb, hw, call_38 _ hx, ha, go_sem, Nat.reduceAdd, Nat.reduceSub, Nat.reduceMul, Nat.reduceMod, Nat.reduceLT, Nat.reduceLeDiff, Nat.reduceEqDiff, Nat.reduceBEq, Nat.reduceDiv, Int.reduceLT, Int.reduceLE, Int.reduceToNat, Int.reduceNeg, Int.reduceEq, ↓reduceIte, reduceCtorEq, ↓reduceDIte, Bool.false_eq_true, Bool.true_eq_false, ne_eq, not_true_eq_false, not_false_eq_true, Bool.true_or, Bool.false_or, Bool.or_true, Bool.or_false, Bool.true_and, Bool.false_and, Bool.and_true, Bool.and_false, Bool.not_true, Bool.not_false, Bool.not_eq_false', Bool.not_eq_true', and_true, true_and, and_false, false_and, or_true, true_or, or_false, false_or, and_self, or_self, decide_eq_true_eq, decide_true, decide_false, decide_eq_false_iff_not, ite_not, if_true, if_false, eq_self]
      have : okAt xs k = false := by unfold okAt; rw [ha]; rfl
      simp [this]
    | false =>
      cases hi : increasing (xs.getD k []) with
      | true =>
        simp -implicitDefEqProofs only [lt_cast hlt, zero_le_cast, Int.toNat_natCast, wrap_succ hlt hb, hw, call_38 _ hx, ha, call_39 _ hx, hi, go_sem, Nat.reduceAdd, Nat.reduceSub, Nat.reduceMul, Nat.reduceMod, Nat.reduceLT, Nat.reduceLeDiff, Nat.reduceEqDiff, Nat.reduceBEq, Nat.reduceDiv, Int.reduceLT, Int.reduceLE, Int.reduceToNat, Int.reduceNeg, Int.reduceEq, ↓reduceIte, reduceCtorEq, ↓reduceDIte, Bool.false_eq_true, Bool.true_eq_false, ne_eq, not_true_eq_false, not_false_eq_true, Bool.true_or, Bool.false_or, Bool.or_true, Bool.or_false, Bool.true_and, Bool.false_and, Bool.and_true, Bool.and_false, Bool.not_true, Bool.not_false, Bool.not_eq_false', Bool.not_eq_true', and_true, true_and, and_false, false_and, or_true, true_or, or_false, false_or, and_self, or_self, decide_eq_true_eq, decide_true, decide_false, decide_eq_false_iff_not, ite_not, if_true, if_false, eq_self]
        have : okAt xs k = true := by unfold okAt; rw [ha, hi]; rfl
        simp only [this, true_and]
        exact ih
      | false =>
        simp -implicitDefEqProofs only [lt_cast hlt, zero_le_cast, Int.toNat_natCast, wrap_succ hlt hb, hw, call_38 _ hx, ha, call_39 _ hx, hi, go_sem, Nat.reduceAdd, Nat.reduceSub, Nat.reduceMul, Nat.reduceMod, Nat.reduceLT, Nat.reduceLeDiff, Nat.reduceEqDiff, Nat.reduceBEq, Nat.reduceDiv, Int.reduceLT, Int.reduceLE, Int.reduceToNat, Int.reduceNeg, Int.reduceEq, ↓reduceIte, reduceCtorEq, ↓reduceDIte, Bool.false_eq_true, Bool.true_eq_false, ne_eq, not_true_eq_false, not_false_eq_true, Bool.true_or, Bool.false_or, Bool.or_true, Bool.or_false, Bool.true_and, Bool.false_and, Bool.and_true, Bool.and_false, Bool.not_true, Bool.not_false, Bool.not_eq_false', Bool.not_eq_true', and_true, true_and, and_false, false_and, or_true, true_or, or_false, false_or, and_self, or_self, decide_eq_true_eq, decide_true, decide_false, decide_eq_false_iff_not, ite_not, if_true, if_false, eq_self]
        have : okAt xs k = false := by unfold okAt; rw [ha, hi]; rfl
        simp [this]

/-- The program's judgement of a graph. -/
def implValid (xs : List (List Int)) : Bool := decide (1 ≤ xs.length ∧ xs.length ≤ 6) && (List.range xs.length).all fun i => okAt xs i

theorem call_12 (xs : List (List Int)) (hb : xs.length < 1000000000000000000) (hc : ∀ x ∈ xs, x.length < 1000000000000000000) : callOf pr 12 [.agg [LL xs]] [] = some (B (implValid xs), []) := by
  obtain ⟨h1, h2⟩ := loop_12 xs hb hc xs.length 0 (by omega)
  rw [call_eq pr 12 _ _ Try.f12 fn_12 _ rfl _ ann_12 rfl]
  by_cases hn : 1 ≤ (xs.length : Int) ∧ (xs.length : Int) ≤ 6
  · have hn' : (1 ≤ (xs.length : Int) ∧ (xs.length : Int) ≤ 6) = True := by simp only [hn, and_self]
    by_cases hr : ∀ i, 0 ≤ i → i < xs.length → okAt xs i = true
    · have h : loopOf pr 12 0 ⟨[(11, LL xs), (12, I xs.length), (13, I 0)], []⟩ = _ := h1 hr
      have : implValid xs = true := by
        unfold implValid
        have h3 : ((List.range xs.length).all fun i => okAt xs i) = true := by simpa using hr
        have h4 : 1 ≤ xs.length ∧ xs.length ≤ 6 := by omega
        rw [h3]; simp [h4]
      simp -implicitDefEqProofs only [call_37, call_36, hn', h, this, go_sem, Nat.reduceAdd, Nat.reduceSub, Nat.reduceMul, Nat.reduceMod, Nat.reduceLT, Nat.reduceLeDiff, Nat.reduceEqDiff, Nat.reduceBEq, Nat.reduceDiv, Int.reduceLT, Int.reduceLE, Int.reduceToNat, Int.reduceNeg, Int.reduceEq, ↓reduceIte, reduceCtorEq, ↓reduceDIte, Bool.false_eq_true, Bool.true_eq_false, ne_eq, not_true_eq_false, not_false_eq_true, Bool.true_or, Bool.false_or, Bool.or_true, Bool.or_false, Bool.true_and, Bool.false_and, Bool.and_true, Bool.and_false, Bool.not_true, Bool.not_false, Bool.not_eq_false', Bool.not_eq_true', and_true, true_and, and_false, false_and, or_true, true_or, or_false, false_or, and_self, or_self, decide_eq_true_eq, decide_true, decide_false, decide_eq_false_iff_not, ite_not, if_true, if_false, eq_self]
    · have h : loopOf pr 12 0 ⟨[(11, LL xs), (12, I xs.length), (13, I 0)], []⟩ = _ := h2 hr
      have : implValid xs = false := by
        unfold implValid
        have h3 : ((List.range xs.length).all fun i => okAt xs i) = false := by
          rw [← Bool.not_eq_true]; exact fun e => hr (by simpa using e)
        simp only [h3, Bool.and_false]
      simp -implicitDefEqProofs only [call_37, call_36, hn', h, this, go_sem, Nat.reduceAdd, Nat.reduceSub, Nat.reduceMul, Nat.reduceMod, Nat.reduceLT, Nat.reduceLeDiff, Nat.reduceEqDiff, Nat.reduceBEq, Nat.reduceDiv, Int.reduceLT, Int.reduceLE, Int.reduceToNat, Int.reduceNeg, Int.reduceEq, ↓reduceIte, reduceCtorEq, ↓reduceDIte, Bool.false_eq_true, Bool.true_eq_false, ne_eq, not_true_eq_false, not_false_eq_true, Bool.true_or, Bool.false_or, Bool.or_true, Bool.or_false, Bool.true_and, Bool.false_and, Bool.and_true, Bool.and_false, Bool.not_true, Bool.not_false, Bool.not_eq_false', Bool.not_eq_true', and_true, true_and, and_false, false_and, or_true, true_or, or_false, false_or, and_self, or_self, decide_eq_true_eq, decide_true, decide_false, decide_eq_false_iff_not, ite_not, if_true, if_false, eq_self]
  · have hn' : (1 ≤ (xs.length : Int) ∧ (xs.length : Int) ≤ 6) = False := by simp only [hn]
    have : implValid xs = false := by
      have h4 : ¬ (1 ≤ xs.length ∧ xs.length ≤ 6) := by omega
      simp only [implValid, h4, decide_false, Bool.false_and]
    simp -implicitDefEqProofs only [call_37, call_36, hn', this, go_sem, Nat.reduceAdd, Nat.reduceSub, Nat.reduceMul, Nat.reduceMod, Nat.reduceLT, Nat.reduceLeDiff, Nat.reduceEqDiff, Nat.reduceBEq, Nat.reduceDiv, Int.reduceLT, Int.reduceLE, Int.reduceToNat, Int.reduceNeg, Int.reduceEq, ↓reduceIte, reduceCtorEq, ↓reduceDIte, Bool.false_eq_true, Bool.true_eq_false, ne_eq, not_true_eq_false, not_false_eq_true, Bool.true_or, Bool.false_or, Bool.or_true, Bool.or_false, Bool.true_and, Bool.false_and, Bool.and_true, Bool.and_false, Bool.not_true, Bool.not_false, Bool.not_eq_false', Bool.not_eq_true', and_true, true_and, and_false, false_and, or_true, true_or, or_false, false_or, and_self, or_self, decide_eq_true_eq, decide_true, decide_false, decide_eq_false_iff_not, ite_not, if_true, if_false, eq_self]
end Go.Proofs.Ytidodagkfbplaaa.PI
