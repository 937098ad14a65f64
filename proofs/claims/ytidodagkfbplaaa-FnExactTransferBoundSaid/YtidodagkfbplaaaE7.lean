/- The first law: the reference's judgement is the program's. -/
import Derived.Test.YtidodagkfbplaaaE6
namespace Go.Proofs.Ytidodagkfbplaaa.PI
open Go Go.Q
set_option maxRecDepth 100000
set_option maxHeartbeats 4000000
set_option linter.unusedSimpArgs false



theorem rises_ok (xs : List Int) (hi : Int) : rises xs 0 hi = (!(xs.any fun n => !decide (0 ≤ n ∧ n ≤ hi)) && increasing xs) := by
  rw [Bool.eq_iff_iff, rises_iff, Bool.and_eq_true, increasing_iff]
  have hany : (!(xs.any fun n => !decide (0 ≤ n ∧ n ≤ hi))) = true ↔ ∀ i, 0 ≤ i → i < xs.length → 0 ≤ xs.getD i 0 ∧ xs.getD i 0 ≤ hi := by
    simp only [Bool.not_eq_true', List.any_eq_false, Bool.not_eq_true', decide_eq_false_iff_not, Decidable.not_not]
    constructor
    · intro h i _ hi'
      rw [getD_of_lt hi']
      exact h _ (List.getElem_mem hi')
    · intro h x hx
      obtain ⟨i, hi', rfl⟩ := List.getElem_of_mem hx
      have := h i (Nat.zero_le _) hi'
      rwa [getD_of_lt hi'] at this
  rw [hany]
  constructor
  · intro h
    exact ⟨fun i h1 h2 => (h i h1 h2).1, fun i h1 h2 => (h i (Nat.zero_le _) h2).2 (by omega)⟩
  · rintro ⟨h1, h2⟩ i h3 h4
    exact ⟨h1 i h3 h4, fun h5 => h2 i (by omega) h4⟩

theorem valid_eq (xs : List (List Int)) : specValid xs = implValid xs := by
  unfold specValid implValid okAt
  simp only [rises_ok]

/-- What a bound says. -/
theorem szL_bound : ∀ (xs : List (List Int)) (l l' : Int), 0 ≤ l → l ≤ 1048576 → (∀ x ∈ xs, x.length < 1000000000000000000) → szL xs l = some l' → ∀ x ∈ xs, x.length ≤ 1048576
  | [], _, _, _, _, _, _, x, hx => by simp at hx
  | y :: xs, l, l', h0, h1, hc, h, x, hx => by
    have hy := hc y (by simp)
    have hw : IntKind.i64.wrap (l - y.length) = l - y.length := by rw [wrap_i] <;> omega
    simp only [szL, hw] at h
    split at h
    · cases h
    · rcases List.mem_cons.1 hx with rfl | hx
      · omega
      · exact szL_bound xs _ l' (by omega) (by omega) (fun z hz => hc z (by simp [hz])) h x hx

theorem szT_bound (xs : List (List Int)) (l' : Int) (hb : xs.length < 1000000000000000000) (hc : ∀ x ∈ xs, x.length < 1000000000000000000) (h : szT xs 1048576 = some l') : xs.length ≤ 1048576 ∧ ∀ x ∈ xs, x.length ≤ 1048576 := by
  have hw : IntKind.i64.wrap (1048576 - xs.length) = 1048576 - xs.length := by rw [wrap_i] <;> omega
  simp only [szT, hw] at h
  split at h
  · cases h
  · exact ⟨by omega, szL_bound xs _ l' (by omega) (by omega) hc h⟩

theorem law_3 (xs : List (List Int)) (hb : xs.length < 1000000000000000000) (hc : ∀ x ∈ xs, x.length < 1000000000000000000) : callOf pr 3 [.agg [LL xs]] [] = some (B true, []) := by
  rw [call_eq pr 3 _ _ Try.f3 fn_3 _ rfl _ ann_3 rfl]
  have h9 := call_9 xs hb 1048576
  by_cases hneg : (szT xs 1048576).getD (-1) < 0
  · rw [if_pos hneg] at h9
    simp -implicitDefEqProofs only [h9, go_sem, Nat.reduceAdd, Nat.reduceSub, Nat.reduceMul, Nat.reduceMod, Nat.reduceLT, Nat.reduceLeDiff, Nat.reduceEqDiff, Nat.reduceBEq, Nat.reduceDiv, Int.reduceLT, Int.reduceLE, Int.reduceToNat, Int.reduceNeg, Int.reduceEq, ↓reduceIte, reduceCtorEq, ↓reduceDIte, Bool.false_eq_true, Bool.true_eq_false, ne_eq, not_true_eq_false, not_false_eq_true, Bool.true_or, Bool.false_or, Bool.or_true, Bool.or_false, Bool.true_and, Bool.false_and, Bool.and_true, Bool.and_false, Bool.not_true, Bool.not_false, Bool.not_eq_false', Bool.not_eq_true', and_true, true_and, and_false, false_and, or_true, true_or, or_false, false_or, and_self, or_self, decide_eq_true_eq, decide_true, decide_false, decide_eq_false_iff_not, ite_not, if_true, if_false, eq_self]
  · rw [if_neg hneg] at h9
    have hneg' : ((szT xs 1048576).getD (-1) < 0) = False := by simp only [hneg]
    have hbd : xs.length ≤ 1048576 ∧ ∀ x ∈ xs, x.length ≤ 1048576 := by
      cases hs : szT xs 1048576 with
      | none => rw [hs] at hneg; exact absurd (by decide) hneg
      | some l' => exact szT_bound xs l' hb hc hs
    have h11 := call_11 xs (by omega) (fun x hx => by have := hbd.2 x hx; omega)
    have h10 := call_10 xs hb hc
    have h12 := call_12 xs hb hc
    have h13 := call_13 xs xs hb hc
    rw [← valid_eq] at h12
    have hself : (specValid xs == specValid xs) = true := by simp
    simp -implicitDefEqProofs only [h9, hneg', h11, h10, h12, h13, hself, decide_true, go_sem, Nat.reduceAdd, Nat.reduceSub, Nat.reduceMul, Nat.reduceMod, Nat.reduceLT, Nat.reduceLeDiff, Nat.reduceEqDiff, Nat.reduceBEq, Nat.reduceDiv, Int.reduceLT, Int.reduceLE, Int.reduceToNat, Int.reduceNeg, Int.reduceEq, ↓reduceIte, reduceCtorEq, ↓reduceDIte, Bool.false_eq_true, Bool.true_eq_false, ne_eq, not_true_eq_false, not_false_eq_true, Bool.true_or, Bool.false_or, Bool.or_true, Bool.or_false, Bool.true_and, Bool.false_and, Bool.and_true, Bool.and_false, Bool.not_true, Bool.not_false, Bool.not_eq_false', Bool.not_eq_true', and_true, true_and, and_false, false_and, or_true, true_or, or_false, false_or, and_self, or_self, decide_eq_true_eq, decide_true, decide_false, decide_eq_false_iff_not, ite_not, if_true, if_false, eq_self]
end Go.Proofs.Ytidodagkfbplaaa.PI
