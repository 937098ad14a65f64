/- What pebblings leave. -/
import Derived.Test.YthhankjdpbbncaaH4
namespace Go.Proofs.Ythhankjdpbbncaa.PI
open Go Go.Q
set_option maxRecDepth 100000
set_option maxHeartbeats 4000000
set_option linter.unusedSimpArgs false
set_option linter.unusedVariables false

theorem spebR (xs : List (List Int)) (P : Int) (hb : xs.length < 1000000000000000000) (hc : ∀ l ∈ xs, l.length < 1000000000000000000) (ms : List Mv) (hl : ms.length < 1000000000000) :
    callOf pr 35 [.agg [LL xs], I P, LM ms] [] = match pebR xs P ms with
      | some r => some (.tuple [.os (.t 2368), .os (.t 2496), I r.2.2, B true], [(2368, .arr true false (.int .i64) (those r.1.testBit 6)), (2496, .arr true false (.int .i64) (those r.2.1.testBit 6))])
      | none => some (.tuple [.nilS, .nilS, I 0, B false], []) := by
  have h1 := call_66 xs hb hc
  have h2 := call_places P
  rw [call_eq pr 35 _ _ Try.f35 fn_35 _ rfl _ ann_35 rfl]
  cases hv : specValid xs with
  | false =>
    rw [hv] at h1
    have hk : pebR xs P ms = none := by simp [pebR, okP, hv]
    rw [hk]
    simp -implicitDefEqProofs only [h1, go_sem, Nat.reduceAdd, Nat.reduceSub, Nat.reduceMul, Nat.reduceMod, Nat.reduceLT, Nat.reduceLeDiff, Nat.reduceEqDiff, Nat.reduceBEq, Nat.reduceDiv, Int.reduceLT, Int.reduceLE, Int.reduceToNat, Int.reduceNeg, Int.reduceEq, ↓reduceIte, reduceCtorEq, ↓reduceDIte, Bool.false_eq_true, Bool.true_eq_false, ne_eq, not_true_eq_false, not_false_eq_true, Bool.true_or, Bool.false_or, Bool.or_true, Bool.or_false, Bool.true_and, Bool.false_and, Bool.and_true, Bool.and_false, Bool.not_true, Bool.not_false, Bool.not_eq_false', Bool.not_eq_true', and_true, true_and, and_false, false_and, or_true, true_or, or_false, false_or, and_self, or_self, decide_eq_true_eq, decide_true, decide_false, decide_eq_false_iff_not, ite_not, if_true, if_false, eq_self]
  | true =>
    rw [hv] at h1
    cases hp : decide (1 ≤ P ∧ P ≤ 6) with
    | false =>
      rw [hp] at h2
      have hk : pebR xs P ms = none := by simp only [pebR, okP, hv, hp]; rfl
      rw [hk]
      simp -implicitDefEqProofs only [h1, h2, go_sem, Nat.reduceAdd, Nat.reduceSub, Nat.reduceMul, Nat.reduceMod, Nat.reduceLT, Nat.reduceLeDiff, Nat.reduceEqDiff, Nat.reduceBEq, Nat.reduceDiv, Int.reduceLT, Int.reduceLE, Int.reduceToNat, Int.reduceNeg, Int.reduceEq, ↓reduceIte, reduceCtorEq, ↓reduceDIte, Bool.false_eq_true, Bool.true_eq_false, ne_eq, not_true_eq_false, not_false_eq_true, Bool.true_or, Bool.false_or, Bool.or_true, Bool.or_false, Bool.true_and, Bool.false_and, Bool.and_true, Bool.and_false, Bool.not_true, Bool.not_false, Bool.not_eq_false', Bool.not_eq_true', and_true, true_and, and_false, false_and, or_true, true_or, or_false, false_or, and_self, or_self, decide_eq_true_eq, decide_true, decide_false, decide_eq_false_iff_not, ite_not, if_true, if_false, eq_self]
    | true =>
      rw [hp] at h2
      have hkp : okP xs P = true := by simp only [okP, hv, hp]; rfl
      by_cases h60 : 60 < (ms.length : Int)
      · have hk : pebR xs P ms = none := by
          simp only [pebR]
          rw [if_neg (fun h => by omega)]
        rw [hk]
        simp -implicitDefEqProofs only [h1, h2, tr h60, go_sem, Nat.reduceAdd, Nat.reduceSub, Nat.reduceMul, Nat.reduceMod, Nat.reduceLT, Nat.reduceLeDiff, Nat.reduceEqDiff, Nat.reduceBEq, Nat.reduceDiv, Int.reduceLT, Int.reduceLE, Int.reduceToNat, Int.reduceNeg, Int.reduceEq, ↓reduceIte, reduceCtorEq, ↓reduceDIte, Bool.false_eq_true, Bool.true_eq_false, ne_eq, not_true_eq_false, not_false_eq_true, Bool.true_or, Bool.false_or, Bool.or_true, Bool.or_false, Bool.true_and, Bool.false_and, Bool.and_true, Bool.and_false, Bool.not_true, Bool.not_false, Bool.not_eq_false', Bool.not_eq_true', and_true, true_and, and_false, false_and, or_true, true_or, or_false, false_or, and_self, or_self, decide_eq_true_eq, decide_true, decide_false, decide_eq_false_iff_not, ite_not, if_true, if_false, eq_self]
      · obtain ⟨hG, h0⟩ := okP_GOK hkp hc
        have h3 := srun xs P hG ms hl
        have hk0 : pebR xs P ms = runM xs P 0 (slow0 xs) 0 ms := by
          unfold pebR
          rw [if_pos ⟨hkp, by omega⟩]
        rw [hk0]
        cases hr : runM xs P 0 (slow0 xs) 0 ms with
        | none =>
          rw [hr] at h3
          simp -implicitDefEqProofs only [h1, h2, fa h60, h3, go_sem, Nat.reduceAdd, Nat.reduceSub, Nat.reduceMul, Nat.reduceMod, Nat.reduceLT, Nat.reduceLeDiff, Nat.reduceEqDiff, Nat.reduceBEq, Nat.reduceDiv, Int.reduceLT, Int.reduceLE, Int.reduceToNat, Int.reduceNeg, Int.reduceEq, ↓reduceIte, reduceCtorEq, ↓reduceDIte, Bool.false_eq_true, Bool.true_eq_false, ne_eq, not_true_eq_false, not_false_eq_true, Bool.true_or, Bool.false_or, Bool.or_true, Bool.or_false, Bool.true_and, Bool.false_and, Bool.and_true, Bool.and_false, Bool.not_true, Bool.not_false, Bool.not_eq_false', Bool.not_eq_true', and_true, true_and, and_false, false_and, or_true, true_or, or_false, false_or, and_self, or_self, decide_eq_true_eq, decide_true, decide_false, decide_eq_false_iff_not, ite_not, if_true, if_false, eq_self]
        | some r =>
          rw [hr] at h3
          have hlt := runM_lt hG.len ms (by omega) (slow0_lt hG.len) hr
          have q1 := call_77 r.1 (by omega)
          have q2 := call_77 r.2.1 (by omega)
          simp -implicitDefEqProofs only [h1, h2, fa h60, h3, q1, q2, go_sem, Nat.reduceAdd, Nat.reduceSub, Nat.reduceMul, Nat.reduceMod, Nat.reduceLT, Nat.reduceLeDiff, Nat.reduceEqDiff, Nat.reduceBEq, Nat.reduceDiv, Int.reduceLT, Int.reduceLE, Int.reduceToNat, Int.reduceNeg, Int.reduceEq, ↓reduceIte, reduceCtorEq, ↓reduceDIte, Bool.false_eq_true, Bool.true_eq_false, ne_eq, not_true_eq_false, not_false_eq_true, Bool.true_or, Bool.false_or, Bool.or_true, Bool.or_false, Bool.true_and, Bool.false_and, Bool.and_true, Bool.and_false, Bool.not_true, Bool.not_false, Bool.not_eq_false', Bool.not_eq_true', and_true, true_and, and_false, false_and, or_true, true_or, or_false, false_or, and_self, or_self, decide_eq_true_eq, decide_true, decide_false, decide_eq_false_iff_not, ite_not, if_true, if_false, eq_self]
theorem pebR_lt {xs : List (List Int)} {P : Int} {ms : List Mv} {r : Nat × Nat × Nat} (hc : ∀ l ∈ xs, l.length < 1000000000000000000) (h : pebR xs P ms = some r) : r.1 < 64 ∧ r.2.1 < 64 ∧ r.2.2 ≤ ms.length := by
  have hkp : okP xs P = true ∧ ms.length ≤ 60 ∧ runM xs P 0 (slow0 xs) 0 ms = some r := by
    unfold pebR at h
    split at h
    · rename_i h'; exact ⟨h'.1, h'.2, h⟩
    · cases h
  obtain ⟨hG, h0⟩ := okP_GOK hkp.1 hc
  have := runM_lt hG.len ms (by omega) (slow0_lt hG.len) hkp.2.2
  simpa using this
theorem ipebR (xs : List (List Int)) (P : Int) (hb : xs.length < 1000000000000000000) (hc : ∀ l ∈ xs, l.length < 1000000000000000000) (ms : List Mv) (hl : ms.length < 1000000000000) :
    callOf pr 36 [.agg [LL xs], I P, LM ms] [] = match pebR xs P ms with
      | some r => some (.tuple [.os (.t 1600), .os (.t 1792), I r.2.2, B true], [(1600, .arr true false (.int .i64) (those r.1.testBit 6)), (1792, .arr true false (.int .i64) (those r.2.1.testBit 6))])
      | none => some (.tuple [.nilS, .nilS, I 0, B false], []) := by
  have h1 : callOf pr 74 [.agg [LL xs], I P, LM ms] [] = some (match pebR xs P ms with
      | some r => .tuple [.agg [I r.1, I r.2.1], I r.2.2, B true]
      | none => .tuple [.agg [I 0, I 0], I 0, B false], []) := irun xs P hb hc ms hl
  rw [call_eq pr 36 _ _ Try.f36 fn_36 _ rfl _ ann_36 rfl]
  cases hr : pebR xs P ms with
  | none =>
    rw [hr] at h1
    simp -implicitDefEqProofs only [h1, go_sem, Nat.reduceAdd, Nat.reduceSub, Nat.reduceMul, Nat.reduceMod, Nat.reduceLT, Nat.reduceLeDiff, Nat.reduceEqDiff, Nat.reduceBEq, Nat.reduceDiv, Int.reduceLT, Int.reduceLE, Int.reduceToNat, Int.reduceNeg, Int.reduceEq, ↓reduceIte, reduceCtorEq, ↓reduceDIte, Bool.false_eq_true, Bool.true_eq_false, ne_eq, not_true_eq_false, not_false_eq_true, Bool.true_or, Bool.false_or, Bool.or_true, Bool.or_false, Bool.true_and, Bool.false_and, Bool.and_true, Bool.and_false, Bool.not_true, Bool.not_false, Bool.not_eq_false', Bool.not_eq_true', and_true, true_and, and_false, false_and, or_true, true_or, or_false, false_or, and_self, or_self, decide_eq_true_eq, decide_true, decide_false, decide_eq_false_iff_not, ite_not, if_true, if_false, eq_self]
  | some r =>
    rw [hr] at h1
    have hlt := pebR_lt hc hr
    have q1 := call_64 r.1 hlt.1
    have q2 := call_64 r.2.1 hlt.2.1
    simp -implicitDefEqProofs only [h1, q1, q2, go_sem, Nat.reduceAdd, Nat.reduceSub, Nat.reduceMul, Nat.reduceMod, Nat.reduceLT, Nat.reduceLeDiff, Nat.reduceEqDiff, Nat.reduceBEq, Nat.reduceDiv, Int.reduceLT, Int.reduceLE, Int.reduceToNat, Int.reduceNeg, Int.reduceEq, ↓reduceIte, reduceCtorEq, ↓reduceDIte, Bool.false_eq_true, Bool.true_eq_false, ne_eq, not_true_eq_false, not_false_eq_true, Bool.true_or, Bool.false_or, Bool.or_true, Bool.or_false, Bool.true_and, Bool.false_and, Bool.and_true, Bool.and_false, Bool.not_true, Bool.not_false, Bool.not_eq_false', Bool.not_eq_true', and_true, true_and, and_false, false_and, or_true, true_or, or_false, false_or, and_self, or_self, decide_eq_true_eq, decide_true, decide_false, decide_eq_false_iff_not, ite_not, if_true, if_false, eq_self]
theorem cnt_int (xs : List Int) : cnt (.slice (.int .i64)) xs = xs.length := by
  induction xs with
  | nil => rfl
  | cons x xs ih => simp only [cnt_slice, List.map_cons, List.sum_cons, List.length_cons] at ih ⊢; rw [ih]; simp [cnt]; omega
theorem law_run (xs : List (List Int)) (hx : Bd wide (.agg (.cons (.slice (.slice (.int .i64))) .nil)) (xs, ())) (P : Int) (ms : List Mv) (hm : Bd wide (.slice tyM) ms) : callOf pr 7 [.agg [LL xs], I P, LM ms] [] = some (B true, []) := by
  obtain ⟨r0, a0, b0, c0⟩ := sz_Graph (xs, ()) hx 1048576 (by omega) (by omega)
  have a0 : callOf pr 25 [.agg [LL xs], I 1048576] [] = some (I r0, []) := a0
  rw [call_eq pr 7 _ _ Try.f7 fn_7 _ rfl _ ann_7 rfl]
  by_cases g0 : r0 < 0
  · simp -implicitDefEqProofs only [a0, tr g0, go_sem, Nat.reduceAdd, Nat.reduceSub, Nat.reduceMul, Nat.reduceMod, Nat.reduceLT, Nat.reduceLeDiff, Nat.reduceEqDiff, Nat.reduceBEq, Nat.reduceDiv, Int.reduceLT, Int.reduceLE, Int.reduceToNat, Int.reduceNeg, Int.reduceEq, ↓reduceIte, reduceCtorEq, ↓reduceDIte, Bool.false_eq_true, Bool.true_eq_false, ne_eq, not_true_eq_false, not_false_eq_true, Bool.true_or, Bool.false_or, Bool.or_true, Bool.or_false, Bool.true_and, Bool.false_and, Bool.and_true, Bool.and_false, Bool.not_true, Bool.not_false, Bool.not_eq_false', Bool.not_eq_true', and_true, true_and, and_false, false_and, or_true, true_or, or_false, false_or, and_self, or_self, decide_eq_true_eq, decide_true, decide_false, decide_eq_false_iff_not, ite_not, if_true, if_false, eq_self]
  obtain ⟨r1, a1, b1, c1⟩ := sz_MoveS ms hm r0 (by omega) b0
  by_cases g1 : r1 < 0
  · simp -implicitDefEqProofs only [a0, fa g0, a1, tr g1, go_sem, Nat.reduceAdd, Nat.reduceSub, Nat.reduceMul, Nat.reduceMod, Nat.reduceLT, Nat.reduceLeDiff, Nat.reduceEqDiff, Nat.reduceBEq, Nat.reduceDiv, Int.reduceLT, Int.reduceLE, Int.reduceToNat, Int.reduceNeg, Int.reduceEq, ↓reduceIte, reduceCtorEq, ↓reduceDIte, Bool.false_eq_true, Bool.true_eq_false, ne_eq, not_true_eq_false, not_false_eq_true, Bool.true_or, Bool.false_or, Bool.or_true, Bool.or_false, Bool.true_and, Bool.false_and, Bool.and_true, Bool.and_false, Bool.not_true, Bool.not_false, Bool.not_eq_false', Bool.not_eq_true', and_true, true_and, and_false, false_and, or_true, true_or, or_false, false_or, and_self, or_self, decide_eq_true_eq, decide_true, decide_false, decide_eq_false_iff_not, ite_not, if_true, if_false, eq_self]
  have hxs : Bd small (.agg (.cons (.slice (.slice (.int .i64))) .nil)) (xs, ()) := c0 (by omega)
  have hms : Bd small (.slice tyM) ms := c1 (by omega)
  have hxl : xs.length ≤ 1048576 := hxs.1.1
  have hcl : ∀ l ∈ xs, l.length < 1000000000000000000 := fun l hl => by have : l.length ≤ 1048576 := (hxs.1.2 l hl).1; omega
  have hml : ms.length ≤ 1048576 := hms.1
  have t1 := to_Graph (xs, ()) hxs
  have t2 := to_MoveS ms (by omega)
  have h1 := spebR xs P (by omega) hcl ms (by omega)
  have h2 := ipebR xs P (by omega) hcl ms (by omega)
  have e1 := eq_Graph (xs, ()) hx
  have e2 := eq_MoveS ms hm
  simp only at t1 e1
  have hg : cnt (.slice (.slice (.int .i64))) xs ≤ 1099511627776 := by
    have := cnt_le (n := small) (.slice (.slice (.int .i64))) xs hxs.1
    simp only [top, small] at this
    omega
  have hv : cnt (.slice (.agg (.cons (.int .i64) (.cons (.int .i64) .nil)))) ms ≤ 1099511627776 := by
    have := cnt_le (n := small) (.slice (.agg (.cons (.int .i64) (.cons (.int .i64) .nil)))) ms hms
    simp only [top, small] at this
    omega
  have k1 := mark_Graph xs 1 (by omega) (by simp only [wide]; omega) hx.1
  have n1 := markD_end (.slice (.slice (.int .i64))) 1 xs
  have k2 := mark_MoveS ms (markD (.slice (.slice (.int .i64))) 1 xs).2 (by omega) (by simp only [wide]; omega) (by simp only [wide]; omega)
  have n2 := markD_end (.slice (.agg (.cons (.int .i64) (.cons (.int .i64) .nil)))) (markD (.slice (.slice (.int .i64))) 1 xs).2 ms
  have k3 : ¬ (markD (.slice (.agg (.cons (.int .i64) (.cons (.int .i64) .nil)))) (markD (.slice (.slice (.int .i64))) 1 xs).2 ms).2 < 0 := by omega
  cases hr : pebR xs P ms with
  | none =>
    rw [hr] at h1 h2
    simp only at h1 h2
    have m0 := markn_Int64S 1
    have q0 := heldn_Int64S 1
    simp -implicitDefEqProofs only [a0, fa g0, a1, fa g1, t1, t2, h1, h2, e1, e2, BEq.rfl, beq_self_eq_true, k1, k2, fa k3, eq_self_iff_true, eqn_Int64S, m0, q0, go_sem, Nat.reduceAdd, Nat.reduceSub, Nat.reduceMul, Nat.reduceMod, Nat.reduceLT, Nat.reduceLeDiff, Nat.reduceEqDiff, Nat.reduceBEq, Nat.reduceDiv, Int.reduceLT, Int.reduceLE, Int.reduceToNat, Int.reduceNeg, Int.reduceEq, ↓reduceIte, reduceCtorEq, ↓reduceDIte, Bool.false_eq_true, Bool.true_eq_false, ne_eq, not_true_eq_false, not_false_eq_true, Bool.true_or, Bool.false_or, Bool.or_true, Bool.or_false, Bool.true_and, Bool.false_and, Bool.and_true, Bool.and_false, Bool.not_true, Bool.not_false, Bool.not_eq_false', Bool.not_eq_true', and_true, true_and, and_false, false_and, or_true, true_or, or_false, false_or, and_self, or_self, decide_eq_true_eq, decide_true, decide_false, decide_eq_false_iff_not, ite_not, if_true, if_false, eq_self]
  | some r =>
    rw [hr] at h1 h2
    simp only at h1 h2
    obtain ⟨f, s, n⟩ := r
    have l1 := those_length f.testBit 6
    have l2 := those_length s.testBit 6
    have bd1 : Bd wide (.slice (.int .i64)) (those f.testBit 6) := ⟨by simp only [wide]; omega, fun _ _ => trivial⟩
    have bd2 : Bd wide (.slice (.int .i64)) (those s.testBit 6) := ⟨by simp only [wide]; omega, fun _ _ => trivial⟩
    have v1 := eq_Int64S (those f.testBit 6) bd1
    have v2 := eq_Int64S (those s.testBit 6) bd2
    have c1 := cnt_int (those f.testBit 6)
    have c2 := cnt_int (those s.testBit 6)
    have m1 := mark_Int64S (those f.testBit 6) 1 (by omega) (by simp only [wide]; omega) bd1.1
    have w1 := markD_end (.slice (.int .i64)) 1 (those f.testBit 6)
    have m2 := mark_Int64S (those s.testBit 6) (markD (.slice (.int .i64)) 1 (those f.testBit 6)).2 (by omega) (by simp only [wide]; omega) bd2.1
    have w2 := markD_end (.slice (.int .i64)) (markD (.slice (.int .i64)) 1 (those f.testBit 6)).2 (those s.testBit 6)
    have q1 := held_Int64S (those f.testBit 6) 1 (by omega) (by simp only [wide]; omega) bd1.1
    have q2 := held_Int64S (those s.testBit 6) (markD (.slice (.int .i64)) 1 (those f.testBit 6)).2 (by omega) (by simp only [wide]; omega) bd2.1
    have z1 : ¬ (markD (.slice (.int .i64)) 1 (those f.testBit 6)).2 < 0 := by omega
    have z2 : ¬ (markD (.slice (.int .i64)) (markD (.slice (.int .i64)) 1 (those f.testBit 6)).2 (those s.testBit 6)).2 < 0 := by omega
    simp -implicitDefEqProofs only [a0, fa g0, a1, fa g1, t1, t2, h1, h2, e1, e2, BEq.rfl, beq_self_eq_true, k1, k2, fa k3, eq_self_iff_true, v1, v2, m1, m2, q1, q2, fa z1, fa z2, go_sem, Nat.reduceAdd, Nat.reduceSub, Nat.reduceMul, Nat.reduceMod, Nat.reduceLT, Nat.reduceLeDiff, Nat.reduceEqDiff, Nat.reduceBEq, Nat.reduceDiv, Int.reduceLT, Int.reduceLE, Int.reduceToNat, Int.reduceNeg, Int.reduceEq, ↓reduceIte, reduceCtorEq, ↓reduceDIte, Bool.false_eq_true, Bool.true_eq_false, ne_eq, not_true_eq_false, not_false_eq_true, Bool.true_or, Bool.false_or, Bool.or_true, Bool.or_false, Bool.true_and, Bool.false_and, Bool.and_true, Bool.and_false, Bool.not_true, Bool.not_false, Bool.not_eq_false', Bool.not_eq_true', and_true, true_and, and_false, false_and, or_true, true_or, or_false, false_or, and_self, or_self, decide_eq_true_eq, decide_true, decide_false, decide_eq_false_iff_not, ite_not, if_true, if_false, eq_self]
end Go.Proofs.Ythhankjdpbbncaa.PI
