/- Pebblings: the program's answers and the reference's. -/
import Derived.Test.YthhankjdpbbncaaH3
namespace Go.Proofs.Ythhankjdpbbncaa.PI
open Go Go.Q
set_option maxRecDepth 100000
set_option maxHeartbeats 4000000
set_option linter.unusedSimpArgs false
set_option linter.unusedVariables false

theorem call_places (P : Int) : callOf pr 70 [I P] [] = some (B (decide (1 ≤ P ∧ P ≤ 6)), []) := by
  rw [call_eq pr 70 _ _ Try.f70 fn_70 _ rfl _ ann_70 rfl]
  simp -implicitDefEqProofs only [call_112, go_sem, Nat.reduceAdd, Nat.reduceSub, Nat.reduceMul, Nat.reduceMod, Nat.reduceLT, Nat.reduceLeDiff, Nat.reduceEqDiff, Nat.reduceBEq, Nat.reduceDiv, Int.reduceLT, Int.reduceLE, Int.reduceToNat, Int.reduceNeg, Int.reduceEq, ↓reduceIte, reduceCtorEq, ↓reduceDIte, Bool.false_eq_true, Bool.true_eq_false, ne_eq, not_true_eq_false, not_false_eq_true, Bool.true_or, Bool.false_or, Bool.or_true, Bool.or_false, Bool.true_and, Bool.false_and, Bool.and_true, Bool.and_false, Bool.not_true, Bool.not_false, Bool.not_eq_false', Bool.not_eq_true', and_true, true_and, and_false, false_and, or_true, true_or, or_false, false_or, and_self, or_self, decide_eq_true_eq, decide_true, decide_false, decide_eq_false_iff_not, ite_not, if_true, if_false, eq_self]
def outM (xs : List (List Int)) : Nat := maskB (isOut xs) xs.length
theorem outM_lt {xs : List (List Int)} (hx : xs.length ≤ 6) : outM xs < 64 := mask_six hx
/-- The end of a pebbling. -/
def endsB (xs : List (List Int)) (s : Nat) : Bool := decide (s &&& outM xs = outM xs)
/-- What a run comes to. -/
def pebR (xs : List (List Int)) (P : Int) (ms : List Mv) : Option (Nat × Nat × Nat) := if okP xs P = true ∧ ms.length ≤ 60 then runM xs P 0 (slow0 xs) 0 ms else none
def isPeb (xs : List (List Int)) (P : Int) (ms : List Mv) : Bool := match pebR xs P ms with
  | some r => endsB xs r.2.1
  | none => false
theorem andNot_zero {a b : Nat} (ha : a < 64) (hb : b < 64) : (bitsOf .andNot .i64 (a : Int) (b : Int) = 0) = (b &&& a = a) := by
  obtain ⟨r, h1, _, h3⟩ := bits_andNot (a := a) (b := b) (by omega) (by omega)
  rw [h1]
  apply propext
  constructor
  · intro h
    have hr : r = 0 := by omega
    apply Nat.eq_of_testBit_eq
    intro k
    have := h3 k
    rw [hr, Nat.zero_testBit] at this
    rw [Nat.testBit_and]
    cases h4 : a.testBit k <;> cases h5 : b.testBit k <;> simp [h4, h5] at this ⊢
  · intro h
    have : r = 0 := by
      apply Nat.eq_of_testBit_eq
      intro k
      rw [h3, Nat.zero_testBit, ← h, Nat.testBit_and]
      cases a.testBit k <;> cases b.testBit k <;> rfl
    rw [this]; rfl
theorem srun_ok (xs : List (List Int)) (P : Int) (hb : xs.length < 1000000000000000000) (hc : ∀ l ∈ xs, l.length < 1000000000000000000) (ms : List Mv) (hl : ms.length < 1000000000000) :
    callOf pr 31 [.agg [LL xs], I P, LM ms] [] = some (B (isPeb xs P ms), []) := by
  have h1 := call_66 xs hb hc
  have h2 := call_places P
  rw [call_eq pr 31 _ _ Try.f31 fn_31 _ rfl _ ann_31 rfl]
  cases hv : specValid xs with
  | false =>
    rw [hv] at h1
    have hk : isPeb xs P ms = false := by simp [isPeb, pebR, okP, hv]
    simp -implicitDefEqProofs only [h1, hk, go_sem, Nat.reduceAdd, Nat.reduceSub, Nat.reduceMul, Nat.reduceMod, Nat.reduceLT, Nat.reduceLeDiff, Nat.reduceEqDiff, Nat.reduceBEq, Nat.reduceDiv, Int.reduceLT, Int.reduceLE, Int.reduceToNat, Int.reduceNeg, Int.reduceEq, ↓reduceIte, reduceCtorEq, ↓reduceDIte, Bool.false_eq_true, Bool.true_eq_false, ne_eq, not_true_eq_false, not_false_eq_true, Bool.true_or, Bool.false_or, Bool.or_true, Bool.or_false, Bool.true_and, Bool.false_and, Bool.and_true, Bool.and_false, Bool.not_true, Bool.not_false, Bool.not_eq_false', Bool.not_eq_true', and_true, true_and, and_false, false_and, or_true, true_or, or_false, false_or, and_self, or_self, decide_eq_true_eq, decide_true, decide_false, decide_eq_false_iff_not, ite_not, if_true, if_false, eq_self]
  | true =>
    rw [hv] at h1
    cases hp : decide (1 ≤ P ∧ P ≤ 6) with
    | false =>
      rw [hp] at h2
      have hk : isPeb xs P ms = false := by simp only [isPeb, pebR, okP, hv, hp]; rfl
      simp -implicitDefEqProofs only [h1, h2, hk, go_sem, Nat.reduceAdd, Nat.reduceSub, Nat.reduceMul, Nat.reduceMod, Nat.reduceLT, Nat.reduceLeDiff, Nat.reduceEqDiff, Nat.reduceBEq, Nat.reduceDiv, Int.reduceLT, Int.reduceLE, Int.reduceToNat, Int.reduceNeg, Int.reduceEq, ↓reduceIte, reduceCtorEq, ↓reduceDIte, Bool.false_eq_true, Bool.true_eq_false, ne_eq, not_true_eq_false, not_false_eq_true, Bool.true_or, Bool.false_or, Bool.or_true, Bool.or_false, Bool.true_and, Bool.false_and, Bool.and_true, Bool.and_false, Bool.not_true, Bool.not_false, Bool.not_eq_false', Bool.not_eq_true', and_true, true_and, and_false, false_and, or_true, true_or, or_false, false_or, and_self, or_self, decide_eq_true_eq, decide_true, decide_false, decide_eq_false_iff_not, ite_not, if_true, if_false, eq_self]
    | true =>
      rw [hp] at h2
      have hkp : okP xs P = true := by simp only [okP, hv, hp]; rfl
      by_cases h60 : 60 < (ms.length : Int)
      · have hk : isPeb xs P ms = false := by
          simp only [isPeb, pebR]
          rw [if_neg (fun h => by omega)]
        simp -implicitDefEqProofs only [h1, h2, tr h60, hk, go_sem, Nat.reduceAdd, Nat.reduceSub, Nat.reduceMul, Nat.reduceMod, Nat.reduceLT, Nat.reduceLeDiff, Nat.reduceEqDiff, Nat.reduceBEq, Nat.reduceDiv, Int.reduceLT, Int.reduceLE, Int.reduceToNat, Int.reduceNeg, Int.reduceEq, ↓reduceIte, reduceCtorEq, ↓reduceDIte, Bool.false_eq_true, Bool.true_eq_false, ne_eq, not_true_eq_false, not_false_eq_true, Bool.true_or, Bool.false_or, Bool.or_true, Bool.or_false, Bool.true_and, Bool.false_and, Bool.and_true, Bool.and_false, Bool.not_true, Bool.not_false, Bool.not_eq_false', Bool.not_eq_true', and_true, true_and, and_false, false_and, or_true, true_or, or_false, false_or, and_self, or_self, decide_eq_true_eq, decide_true, decide_false, decide_eq_false_iff_not, ite_not, if_true, if_false, eq_self]
      · obtain ⟨hG, h0⟩ := okP_GOK hkp hc
        have h3 := srun xs P hG ms hl
        have h4 : callOf pr 72 [.rp [LL xs]] [] = some (I (outM xs), []) := call_72 xs hG.len hG.vals hG.lens
        have hk0 : pebR xs P ms = runM xs P 0 (slow0 xs) 0 ms := by
          unfold pebR
          rw [if_pos ⟨hkp, by omega⟩]
        cases hr : runM xs P 0 (slow0 xs) 0 ms with
        | none =>
          rw [hr] at h3
          have hk : isPeb xs P ms = false := by simp only [isPeb, hk0, hr]
          simp -implicitDefEqProofs only [h1, h2, fa h60, h3, hk, go_sem, Nat.reduceAdd, Nat.reduceSub, Nat.reduceMul, Nat.reduceMod, Nat.reduceLT, Nat.reduceLeDiff, Nat.reduceEqDiff, Nat.reduceBEq, Nat.reduceDiv, Int.reduceLT, Int.reduceLE, Int.reduceToNat, Int.reduceNeg, Int.reduceEq, ↓reduceIte, reduceCtorEq, ↓reduceDIte, Bool.false_eq_true, Bool.true_eq_false, ne_eq, not_true_eq_false, not_false_eq_true, Bool.true_or, Bool.false_or, Bool.or_true, Bool.or_false, Bool.true_and, Bool.false_and, Bool.and_true, Bool.and_false, Bool.not_true, Bool.not_false, Bool.not_eq_false', Bool.not_eq_true', and_true, true_and, and_false, false_and, or_true, true_or, or_false, false_or, and_self, or_self, decide_eq_true_eq, decide_true, decide_false, decide_eq_false_iff_not, ite_not, if_true, if_false, eq_self]
        | some r =>
          rw [hr] at h3
          have hlt := runM_lt hG.len ms (by omega) (slow0_lt hG.len) hr
          have hz := andNot_zero (outM_lt hG.len) hlt.2.1
          have hk : isPeb xs P ms = decide (r.2.1 &&& outM xs = outM xs) := by simp only [isPeb, hk0, hr, endsB]
          simp -implicitDefEqProofs only [h1, h2, fa h60, h3, h4, hz, hk, go_sem, Nat.reduceAdd, Nat.reduceSub, Nat.reduceMul, Nat.reduceMod, Nat.reduceLT, Nat.reduceLeDiff, Nat.reduceEqDiff, Nat.reduceBEq, Nat.reduceDiv, Int.reduceLT, Int.reduceLE, Int.reduceToNat, Int.reduceNeg, Int.reduceEq, ↓reduceIte, reduceCtorEq, ↓reduceDIte, Bool.false_eq_true, Bool.true_eq_false, ne_eq, not_true_eq_false, not_false_eq_true, Bool.true_or, Bool.false_or, Bool.or_true, Bool.or_false, Bool.true_and, Bool.false_and, Bool.and_true, Bool.and_false, Bool.not_true, Bool.not_false, Bool.not_eq_false', Bool.not_eq_true', and_true, true_and, and_false, false_and, or_true, true_or, or_false, false_or, and_self, or_self, decide_eq_true_eq, decide_true, decide_false, decide_eq_false_iff_not, ite_not, if_true, if_false, eq_self]
theorem call_ends (xs : List (List Int)) (hG : GOK xs) (h0 : 0 < xs.length) (f s : Nat) (hs : s < 64) : callOf pr 75 [.agg [LL xs], .agg [I f, I s]] [] = some (B (endsB xs s), []) := by
  have h1 := call_61 xs (by have := hG.len; omega) h0 hG.lens
  have h2 : callOf pr 62 [L (those (isOut xs) xs.length)] [] = some (I (outM xs), []) := call_62 (isOut xs) xs.length hG.len
  have hlt := outM_lt hG.len
  have h3 := bits_and (a := s) (b := outM xs) (by omega) (by omega)
  have h4 : (((s &&& outM xs : Nat) : Int) = ((outM xs : Nat) : Int)) = (s &&& outM xs = outM xs) := propext ⟨fun h => by omega, fun h => by rw [h]⟩
  rw [call_eq pr 75 _ _ Try.f75 fn_75 _ rfl _ ann_75 rfl]
  simp -implicitDefEqProofs only [h1, h2, h3, h4, endsB, go_sem, Nat.reduceAdd, Nat.reduceSub, Nat.reduceMul, Nat.reduceMod, Nat.reduceLT, Nat.reduceLeDiff, Nat.reduceEqDiff, Nat.reduceBEq, Nat.reduceDiv, Int.reduceLT, Int.reduceLE, Int.reduceToNat, Int.reduceNeg, Int.reduceEq, ↓reduceIte, reduceCtorEq, ↓reduceDIte, Bool.false_eq_true, Bool.true_eq_false, ne_eq, not_true_eq_false, not_false_eq_true, Bool.true_or, Bool.false_or, Bool.or_true, Bool.or_false, Bool.true_and, Bool.false_and, Bool.and_true, Bool.and_false, Bool.not_true, Bool.not_false, Bool.not_eq_false', Bool.not_eq_true', and_true, true_and, and_false, false_and, or_true, true_or, or_false, false_or, and_self, or_self, decide_eq_true_eq, decide_true, decide_false, decide_eq_false_iff_not, ite_not, if_true, if_false, eq_self]
theorem irun_ok (xs : List (List Int)) (P : Int) (hb : xs.length < 1000000000000000000) (hc : ∀ l ∈ xs, l.length < 1000000000000000000) (ms : List Mv) (hl : ms.length < 1000000000000) :
    callOf pr 33 [.agg [LL xs], I P, LM ms] [] = some (B (isPeb xs P ms), []) := by
  have h1 : callOf pr 74 [.agg [LL xs], I P, LM ms] [] = some (match pebR xs P ms with
      | some r => .tuple [.agg [I r.1, I r.2.1], I r.2.2, B true]
      | none => .tuple [.agg [I 0, I 0], I 0, B false], []) := irun xs P hb hc ms hl
  rw [call_eq pr 33 _ _ Try.f33 fn_33 _ rfl _ ann_33 rfl]
  cases hr : pebR xs P ms with
  | none =>
    rw [hr] at h1
    have hk : isPeb xs P ms = false := by simp only [isPeb, hr]
    simp -implicitDefEqProofs only [h1, hk, go_sem, Nat.reduceAdd, Nat.reduceSub, Nat.reduceMul, Nat.reduceMod, Nat.reduceLT, Nat.reduceLeDiff, Nat.reduceEqDiff, Nat.reduceBEq, Nat.reduceDiv, Int.reduceLT, Int.reduceLE, Int.reduceToNat, Int.reduceNeg, Int.reduceEq, ↓reduceIte, reduceCtorEq, ↓reduceDIte, Bool.false_eq_true, Bool.true_eq_false, ne_eq, not_true_eq_false, not_false_eq_true, Bool.true_or, Bool.false_or, Bool.or_true, Bool.or_false, Bool.true_and, Bool.false_and, Bool.and_true, Bool.and_false, Bool.not_true, Bool.not_false, Bool.not_eq_false', Bool.not_eq_true', and_true, true_and, and_false, false_and, or_true, true_or, or_false, false_or, and_self, or_self, decide_eq_true_eq, decide_true, decide_false, decide_eq_false_iff_not, ite_not, if_true, if_false, eq_self]
  | some r =>
    rw [hr] at h1
    have hk : isPeb xs P ms = endsB xs r.2.1 := by simp only [isPeb, hr]
    have hkp : okP xs P = true ∧ ms.length ≤ 60 ∧ runM xs P 0 (slow0 xs) 0 ms = some r := by
      unfold pebR at hr
      split at hr
      · rename_i h; exact ⟨h.1, h.2, hr⟩
      · cases hr
    obtain ⟨hG, h0⟩ := okP_GOK hkp.1 hc
    have hlt := runM_lt hG.len ms (by omega) (slow0_lt hG.len) hkp.2.2
    have h2 := call_ends xs hG h0 r.1 r.2.1 hlt.2.1
    simp -implicitDefEqProofs only [h1, h2, hk, go_sem, Nat.reduceAdd, Nat.reduceSub, Nat.reduceMul, Nat.reduceMod, Nat.reduceLT, Nat.reduceLeDiff, Nat.reduceEqDiff, Nat.reduceBEq, Nat.reduceDiv, Int.reduceLT, Int.reduceLE, Int.reduceToNat, Int.reduceNeg, Int.reduceEq, ↓reduceIte, reduceCtorEq, ↓reduceDIte, Bool.false_eq_true, Bool.true_eq_false, ne_eq, not_true_eq_false, not_false_eq_true, Bool.true_or, Bool.false_or, Bool.or_true, Bool.or_false, Bool.true_and, Bool.false_and, Bool.and_true, Bool.and_false, Bool.not_true, Bool.not_false, Bool.not_eq_false', Bool.not_eq_true', and_true, true_and, and_false, false_and, or_true, true_or, or_false, false_or, and_self, or_self, decide_eq_true_eq, decide_true, decide_false, decide_eq_false_iff_not, ite_not, if_true, if_false, eq_self]
/-- Sizes of a row's arguments. -/
theorem law_is (xs : List (List Int)) (hx : Bd wide (.agg (.cons (.slice (.slice (.int .i64))) .nil)) (xs, ())) (P : Int) (ms : List Mv) (hm : Bd wide (.slice tyM) ms) : callOf pr 6 [.agg [LL xs], I P, LM ms] [] = some (B true, []) := by
  obtain ⟨r0, a0, b0, c0⟩ := sz_Graph (xs, ()) hx 1048576 (by omega) (by omega)
  have a0 : callOf pr 25 [.agg [LL xs], I 1048576] [] = some (I r0, []) := a0
  rw [call_eq pr 6 _ _ Try.f6 fn_6 _ rfl _ ann_6 rfl]
  by_cases g0 : r0 < 0
  · simp -implicitDefEqProofs only [a0, tr g0, go_sem, Nat.reduceAdd, Nat.reduceSub, Nat.reduceMul, Nat.reduceMod, Nat.reduceLT, Nat.reduceLeDiff, Nat.reduceEqDiff, Nat.reduceBEq, Nat.reduceDiv, Int.reduceLT, Int.reduceLE, Int.reduceToNat, Int.reduceNeg, Int.reduceEq, ↓reduceIte, reduceCtorEq, ↓reduceDIte, Bool.false_eq_true, Bool.true_eq_false, ne_eq, not_true_eq_false, not_false_eq_true, Bool.true_or, Bool.false_or, Bool.or_true, Bool.or_false, Bool.true_and, Bool.false_and, Bool.and_true, Bool.and_false, Bool.not_true, Bool.not_false, Bool.not_eq_false', Bool.not_eq_true', and_true, true_and, and_false, false_and, or_true, true_or, or_false, false_or, and_self, or_self, decide_eq_true_eq, decide_true, decide_false, decide_eq_false_iff_not, ite_not, if_true, if_false, eq_self]
  · obtain ⟨r1, a1, b1, c1⟩ := sz_MoveS ms hm r0 (by omega) b0
    by_cases g1 : r1 < 0
    · simp -implicitDefEqProofs only [a0, fa g0, a1, tr g1, go_sem, Nat.reduceAdd, Nat.reduceSub, Nat.reduceMul, Nat.reduceMod, Nat.reduceLT, Nat.reduceLeDiff, Nat.reduceEqDiff, Nat.reduceBEq, Nat.reduceDiv, Int.reduceLT, Int.reduceLE, Int.reduceToNat, Int.reduceNeg, Int.reduceEq, ↓reduceIte, reduceCtorEq, ↓reduceDIte, Bool.false_eq_true, Bool.true_eq_false, ne_eq, not_true_eq_false, not_false_eq_true, Bool.true_or, Bool.false_or, Bool.or_true, Bool.or_false, Bool.true_and, Bool.false_and, Bool.and_true, Bool.and_false, Bool.not_true, Bool.not_false, Bool.not_eq_false', Bool.not_eq_true', and_true, true_and, and_false, false_and, or_true, true_or, or_false, false_or, and_self, or_self, decide_eq_true_eq, decide_true, decide_false, decide_eq_false_iff_not, ite_not, if_true, if_false, eq_self]
    · have hxs : Bd small (.agg (.cons (.slice (.slice (.int .i64))) .nil)) (xs, ()) := c0 (by omega)
      have hms : Bd small (.slice tyM) ms := c1 (by omega)
      have hxl : xs.length ≤ 1048576 := hxs.1.1
      have hcl : ∀ l ∈ xs, l.length < 1000000000000000000 := fun l hl => by have : l.length ≤ 1048576 := (hxs.1.2 l hl).1; omega
      have hml : ms.length ≤ 1048576 := hms.1
      have t1 := to_Graph (xs, ()) hxs
      have t2 := to_MoveS ms (by omega)
      have h1 := srun_ok xs P (by omega) hcl ms (by omega)
      have h2 := irun_ok xs P (by omega) hcl ms (by omega)
      have e1 := eq_Graph (xs, ()) hx
      have e2 := eq_MoveS ms hm
      simp only at t1 e1
      simp -implicitDefEqProofs only [a0, fa g0, a1, fa g1, t1, t2, h1, h2, e1, e2, BEq.rfl, beq_self_eq_true, go_sem, Nat.reduceAdd, Nat.reduceSub, Nat.reduceMul, Nat.reduceMod, Nat.reduceLT, Nat.reduceLeDiff, Nat.reduceEqDiff, Nat.reduceBEq, Nat.reduceDiv, Int.reduceLT, Int.reduceLE, Int.reduceToNat, Int.reduceNeg, Int.reduceEq, ↓reduceIte, reduceCtorEq, ↓reduceDIte, Bool.false_eq_true, Bool.true_eq_false, ne_eq, not_true_eq_false, not_false_eq_true, Bool.true_or, Bool.false_or, Bool.or_true, Bool.or_false, Bool.true_and, Bool.false_and, Bool.and_true, Bool.and_false, Bool.not_true, Bool.not_false, Bool.not_eq_false', Bool.not_eq_true', and_true, true_and, and_false, false_and, or_true, true_or, or_false, false_or, and_self, or_self, decide_eq_true_eq, decide_true, decide_false, decide_eq_false_iff_not, ite_not, if_true, if_false, eq_self]
end Go.Proofs.Ythhankjdpbbncaa.PI
