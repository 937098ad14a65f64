/- The laws of runs of policies. -/
import Derived.Test.YtfooniikopekoaaP7
namespace Go.Proofs.Ytfooniikopekoaa.PI
open Go Go.Q
set_option maxRecDepth 100000
set_option maxHeartbeats 4000000
set_option linter.unusedSimpArgs false
set_option linter.unusedVariables false
theorem cnt_int (xs : List Int) : cnt (.slice (.int .i64)) xs = xs.length := by
  induction xs with
  | nil => rfl
  | cons x xs ih => simp only [cnt_slice, List.map_cons, List.sum_cons, List.length_cons] at ih ⊢; rw [ih]; simp [cnt]; omega
theorem law_misses (hit : List (List Int)) (miss : List Int) (hx : Bd wide (.agg (.cons (.slice (.slice (.int .i64))) (.cons (.slice (.int .i64)) .nil))) (hit, miss, ())) (uses : List Int) (hu : Bd wide (.slice (.int .i64)) uses) : callOf pr 4 [.agg [LL hit, L miss], L uses] [] = some (B true, []) := by
  rw [call_eq pr 4 _ _ Try.f4 fn_4 _ rfl _ ann_4 rfl]
  by_cases gl : (uses.length : Int) > 1048576
  · simp -implicitDefEqProofs only [tr gl, go_sem, Nat.reduceAdd, Nat.reduceSub, Nat.reduceMul, Nat.reduceMod, Nat.reduceLT, Nat.reduceLeDiff, Nat.reduceEqDiff, Nat.reduceBEq, Nat.reduceDiv, Int.reduceLT, Int.reduceLE, Int.reduceToNat, Int.reduceNeg, Int.reduceEq, ↓reduceIte, reduceCtorEq, ↓reduceDIte, Bool.false_eq_true, Bool.true_eq_false, ne_eq, not_true_eq_false, not_false_eq_true, Bool.true_or, Bool.false_or, Bool.or_true, Bool.or_false, Bool.true_and, Bool.false_and, Bool.and_true, Bool.and_false, Bool.not_true, Bool.not_false, Bool.not_eq_false', Bool.not_eq_true', and_true, true_and, and_false, false_and, or_true, true_or, or_false, false_or, and_self, or_self, decide_eq_true_eq, decide_true, decide_false, decide_eq_false_iff_not, ite_not, if_true, if_false, eq_self]
  obtain ⟨r0, a0, b0, c0⟩ := sz_Policy (hit, miss, ()) hx 1048576 (by omega) (by omega)
  have a0 : callOf pr 14 [.agg [LL hit, L miss], I 1048576] [] = some (I r0, []) := a0
  by_cases g0 : r0 < 0
  · simp -implicitDefEqProofs only [fa gl, a0, tr g0, go_sem, Nat.reduceAdd, Nat.reduceSub, Nat.reduceMul, Nat.reduceMod, Nat.reduceLT, Nat.reduceLeDiff, Nat.reduceEqDiff, Nat.reduceBEq, Nat.reduceDiv, Int.reduceLT, Int.reduceLE, Int.reduceToNat, Int.reduceNeg, Int.reduceEq, ↓reduceIte, reduceCtorEq, ↓reduceDIte, Bool.false_eq_true, Bool.true_eq_false, ne_eq, not_true_eq_false, not_false_eq_true, Bool.true_or, Bool.false_or, Bool.or_true, Bool.or_false, Bool.true_and, Bool.false_and, Bool.and_true, Bool.and_false, Bool.not_true, Bool.not_false, Bool.not_eq_false', Bool.not_eq_true', and_true, true_and, and_false, false_and, or_true, true_or, or_false, false_or, and_self, or_self, decide_eq_true_eq, decide_true, decide_false, decide_eq_false_iff_not, ite_not, if_true, if_false, eq_self]
  have hxs : Bd small (.agg (.cons (.slice (.slice (.int .i64))) (.cons (.slice (.int .i64)) .nil))) (hit, miss, ()) := c0 (by omega)
  have hl1 : hit.length ≤ 1048576 := hxs.1.1
  have hl2 : miss.length ≤ 1048576 := hxs.2.1.1
  have hcl : ∀ l ∈ hit, l.length < 1000000000000000000 := fun l hl => by have : l.length ≤ 1048576 := (hxs.1.2 l hl).1; omega
  have t1 := to_Policy (hit, miss, ()) hxs
  have t2 := to_Int64S uses (by omega)
  have h1 := call_smo hit miss (by omega) (by omega) hcl uses (by omega)
  have h2 := call_imo hit miss (by omega) (by omega) hcl uses (by omega)
  have e1 := eq_Policy (hit, miss, ()) hx
  have e2 := eq_Int64S uses hu
  simp only at t1 e1
  cases hf : fair hit miss uses with
  | false =>
    rw [hf, if_neg (by simp)] at h1 h2
    simp -implicitDefEqProofs only [fa gl, a0, fa g0, t1, t2, h1, h2, e1, e2, BEq.rfl, beq_self_eq_true, eq_self_iff_true, go_sem, Nat.reduceAdd, Nat.reduceSub, Nat.reduceMul, Nat.reduceMod, Nat.reduceLT, Nat.reduceLeDiff, Nat.reduceEqDiff, Nat.reduceBEq, Nat.reduceDiv, Int.reduceLT, Int.reduceLE, Int.reduceToNat, Int.reduceNeg, Int.reduceEq, ↓reduceIte, reduceCtorEq, ↓reduceDIte, Bool.false_eq_true, Bool.true_eq_false, ne_eq, not_true_eq_false, not_false_eq_true, Bool.true_or, Bool.false_or, Bool.or_true, Bool.or_false, Bool.true_and, Bool.false_and, Bool.and_true, Bool.and_false, Bool.not_true, Bool.not_false, Bool.not_eq_false', Bool.not_eq_true', and_true, true_and, and_false, false_and, or_true, true_or, or_false, false_or, and_self, or_self, decide_eq_true_eq, decide_true, decide_false, decide_eq_false_iff_not, ite_not, if_true, if_false, eq_self]
  | true =>
    rw [hf, if_pos rfl] at h1 h2
    simp -implicitDefEqProofs only [fa gl, a0, fa g0, t1, t2, h1, h2, e1, e2, BEq.rfl, beq_self_eq_true, eq_self_iff_true, go_sem, Nat.reduceAdd, Nat.reduceSub, Nat.reduceMul, Nat.reduceMod, Nat.reduceLT, Nat.reduceLeDiff, Nat.reduceEqDiff, Nat.reduceBEq, Nat.reduceDiv, Int.reduceLT, Int.reduceLE, Int.reduceToNat, Int.reduceNeg, Int.reduceEq, ↓reduceIte, reduceCtorEq, ↓reduceDIte, Bool.false_eq_true, Bool.true_eq_false, ne_eq, not_true_eq_false, not_false_eq_true, Bool.true_or, Bool.false_or, Bool.or_true, Bool.or_false, Bool.true_and, Bool.false_and, Bool.and_true, Bool.and_false, Bool.not_true, Bool.not_false, Bool.not_eq_false', Bool.not_eq_true', and_true, true_and, and_false, false_and, or_true, true_or, or_false, false_or, and_self, or_self, decide_eq_true_eq, decide_true, decide_false, decide_eq_false_iff_not, ite_not, if_true, if_false, eq_self]
theorem law_evicted (hit : List (List Int)) (miss : List Int) (hx : Bd wide (.agg (.cons (.slice (.slice (.int .i64))) (.cons (.slice (.int .i64)) .nil))) (hit, miss, ())) (uses : List Int) (hu : Bd wide (.slice (.int .i64)) uses) : callOf pr 5 [.agg [LL hit, L miss], L uses] [] = some (B true, []) := by
  rw [call_eq pr 5 _ _ Try.f5 fn_5 _ rfl _ ann_5 rfl]
  by_cases gl : (uses.length : Int) > 1048576
  · simp -implicitDefEqProofs only [tr gl, go_sem, Nat.reduceAdd, Nat.reduceSub, Nat.reduceMul, Nat.reduceMod, Nat.reduceLT, Nat.reduceLeDiff, Nat.reduceEqDiff, Nat.reduceBEq, Nat.reduceDiv, Int.reduceLT, Int.reduceLE, Int.reduceToNat, Int.reduceNeg, Int.reduceEq, ↓reduceIte, reduceCtorEq, ↓reduceDIte, Bool.false_eq_true, Bool.true_eq_false, ne_eq, not_true_eq_false, not_false_eq_true, Bool.true_or, Bool.false_or, Bool.or_true, Bool.or_false, Bool.true_and, Bool.false_and, Bool.and_true, Bool.and_false, Bool.not_true, Bool.not_false, Bool.not_eq_false', Bool.not_eq_true', and_true, true_and, and_false, false_and, or_true, true_or, or_false, false_or, and_self, or_self, decide_eq_true_eq, decide_true, decide_false, decide_eq_false_iff_not, ite_not, if_true, if_false, eq_self]
  obtain ⟨r0, a0, b0, c0⟩ := sz_Policy (hit, miss, ()) hx 1048576 (by omega) (by omega)
  have a0 : callOf pr 14 [.agg [LL hit, L miss], I 1048576] [] = some (I r0, []) := a0
  by_cases g0 : r0 < 0
  · simp -implicitDefEqProofs only [fa gl, a0, tr g0, go_sem, Nat.reduceAdd, Nat.reduceSub, Nat.reduceMul, Nat.reduceMod, Nat.reduceLT, Nat.reduceLeDiff, Nat.reduceEqDiff, Nat.reduceBEq, Nat.reduceDiv, Int.reduceLT, Int.reduceLE, Int.reduceToNat, Int.reduceNeg, Int.reduceEq, ↓reduceIte, reduceCtorEq, ↓reduceDIte, Bool.false_eq_true, Bool.true_eq_false, ne_eq, not_true_eq_false, not_false_eq_true, Bool.true_or, Bool.false_or, Bool.or_true, Bool.or_false, Bool.true_and, Bool.false_and, Bool.and_true, Bool.and_false, Bool.not_true, Bool.not_false, Bool.not_eq_false', Bool.not_eq_true', and_true, true_and, and_false, false_and, or_true, true_or, or_false, false_or, and_self, or_self, decide_eq_true_eq, decide_true, decide_false, decide_eq_false_iff_not, ite_not, if_true, if_false, eq_self]
  have hxs : Bd small (.agg (.cons (.slice (.slice (.int .i64))) (.cons (.slice (.int .i64)) .nil))) (hit, miss, ()) := c0 (by omega)
  have hl1 : hit.length ≤ 1048576 := hxs.1.1
  have hl2 : miss.length ≤ 1048576 := hxs.2.1.1
  have hcl : ∀ l ∈ hit, l.length < 1000000000000000000 := fun l hl => by have : l.length ≤ 1048576 := (hxs.1.2 l hl).1; omega
  have t1 := to_Policy (hit, miss, ()) hxs
  have t2 := to_Int64S uses (by omega)
  have h1 := call_sev hit miss (by omega) (by omega) hcl uses (by omega)
  have h2 := call_iev hit miss (by omega) (by omega) hcl uses (by omega)
  have e1 := eq_Policy (hit, miss, ()) hx
  have e2 := eq_Int64S uses hu
  simp only at t1 e1
  have hg : cnt (.slice (.slice (.int .i64))) hit ≤ 1099511627776 := by
    have := cnt_le (n := small) (.slice (.slice (.int .i64))) hit hxs.1
    simp only [top, small] at this
    omega
  have hc2 := cnt_int miss
  have hc3 := cnt_int uses
  have k1 := mark_Policy hit miss 1 (by omega) (by simp only [wide]; omega) hx.1 hx.2.1
  have n1 := markD_end (.slice (.slice (.int .i64))) 1 hit
  have n2 := markD_end (.slice (.int .i64)) (markD (.slice (.slice (.int .i64))) 1 hit).2 miss
  have k2 := mark_Int64S uses (markD (.slice (.int .i64)) (markD (.slice (.slice (.int .i64))) 1 hit).2 miss).2 (by omega) (by simp only [wide]; omega) hu.1
  have n3 := markD_end (.slice (.int .i64)) (markD (.slice (.int .i64)) (markD (.slice (.slice (.int .i64))) 1 hit).2 miss).2 uses
  have k3 : ¬ (markD (.slice (.int .i64)) (markD (.slice (.int .i64)) (markD (.slice (.slice (.int .i64))) 1 hit).2 miss).2 uses).2 < 0 := by omega
  cases hf : fair hit miss uses with
  | false =>
    rw [hf, if_neg (by simp)] at h1 h2
    have m0 := markn_Int64S 1
    have q0 := heldn_Int64S 1
    simp -implicitDefEqProofs only [fa gl, a0, fa g0, t1, t2, h1, h2, e1, e2, BEq.rfl, beq_self_eq_true, eq_self_iff_true, k1, k2, fa k3, eqn_Int64S, m0, q0, go_sem, Nat.reduceAdd, Nat.reduceSub, Nat.reduceMul, Nat.reduceMod, Nat.reduceLT, Nat.reduceLeDiff, Nat.reduceEqDiff, Nat.reduceBEq, Nat.reduceDiv, Int.reduceLT, Int.reduceLE, Int.reduceToNat, Int.reduceNeg, Int.reduceEq, ↓reduceIte, reduceCtorEq, ↓reduceDIte, Bool.false_eq_true, Bool.true_eq_false, ne_eq, not_true_eq_false, not_false_eq_true, Bool.true_or, Bool.false_or, Bool.or_true, Bool.or_false, Bool.true_and, Bool.false_and, Bool.and_true, Bool.and_false, Bool.not_true, Bool.not_false, Bool.not_eq_false', Bool.not_eq_true', and_true, true_and, and_false, false_and, or_true, true_or, or_false, false_or, and_self, or_self, decide_eq_true_eq, decide_true, decide_false, decide_eq_false_iff_not, ite_not, if_true, if_false, eq_self]
  | true =>
    rw [hf, if_pos rfl] at h1 h2
    obtain ⟨hv, h6⟩ := fair_len hf
    have l1 := (runC_length hit miss uses (emptyC miss)).2
    obtain ⟨c, hc, h2⟩ := h2
    generalize hrs : (runC hit miss (emptyC miss) uses).2.1 = rs at h1 h2 l1
    have bd1 : Bd wide (.slice (.int .i64)) rs := ⟨by simp only [wide]; omega, fun _ _ => trivial⟩
    have v1 := eq_Int64S rs bd1
    have c1 := cnt_int rs
    have m1 := mark_Int64S rs 1 (by omega) (by simp only [wide]; omega) bd1.1
    have w1 := markD_end (.slice (.int .i64)) 1 rs
    have q1 := held_Int64S rs 1 (by omega) (by simp only [wide]; omega) bd1.1
    have z1 : ¬ (markD (.slice (.int .i64)) 1 rs).2 < 0 := by omega
    rcases hc with rfl | rfl
    · simp -implicitDefEqProofs only [fa gl, a0, fa g0, t1, t2, h1, h2, e1, e2, BEq.rfl, beq_self_eq_true, eq_self_iff_true, k1, k2, fa k3, v1, m1, q1, fa z1, go_sem, Nat.reduceAdd, Nat.reduceSub, Nat.reduceMul, Nat.reduceMod, Nat.reduceLT, Nat.reduceLeDiff, Nat.reduceEqDiff, Nat.reduceBEq, Nat.reduceDiv, Int.reduceLT, Int.reduceLE, Int.reduceToNat, Int.reduceNeg, Int.reduceEq, ↓reduceIte, reduceCtorEq, ↓reduceDIte, Bool.false_eq_true, Bool.true_eq_false, ne_eq, not_true_eq_false, not_false_eq_true, Bool.true_or, Bool.false_or, Bool.or_true, Bool.or_false, Bool.true_and, Bool.false_and, Bool.and_true, Bool.and_false, Bool.not_true, Bool.not_false, Bool.not_eq_false', Bool.not_eq_true', and_true, true_and, and_false, false_and, or_true, true_or, or_false, false_or, and_self, or_self, decide_eq_true_eq, decide_true, decide_false, decide_eq_false_iff_not, ite_not, if_true, if_false, eq_self]
    · simp -implicitDefEqProofs only [fa gl, a0, fa g0, t1, t2, h1, h2, e1, e2, BEq.rfl, beq_self_eq_true, eq_self_iff_true, k1, k2, fa k3, v1, m1, q1, fa z1, go_sem, Nat.reduceAdd, Nat.reduceSub, Nat.reduceMul, Nat.reduceMod, Nat.reduceLT, Nat.reduceLeDiff, Nat.reduceEqDiff, Nat.reduceBEq, Nat.reduceDiv, Int.reduceLT, Int.reduceLE, Int.reduceToNat, Int.reduceNeg, Int.reduceEq, ↓reduceIte, reduceCtorEq, ↓reduceDIte, Bool.false_eq_true, Bool.true_eq_false, ne_eq, not_true_eq_false, not_false_eq_true, Bool.true_or, Bool.false_or, Bool.or_true, Bool.or_false, Bool.true_and, Bool.false_and, Bool.and_true, Bool.and_false, Bool.not_true, Bool.not_false, Bool.not_eq_false', Bool.not_eq_true', and_true, true_and, and_false, false_and, or_true, true_or, or_false, false_or, and_self, or_self, decide_eq_true_eq, decide_true, decide_false, decide_eq_false_iff_not, ite_not, if_true, if_false, eq_self]
theorem law_runp (hit : List (List Int)) (miss : List Int) (hx : Bd wide (.agg (.cons (.slice (.slice (.int .i64))) (.cons (.slice (.int .i64)) .nil))) (hit, miss, ())) (uses : List Int) (hu : Bd wide (.slice (.int .i64)) uses) : callOf pr 6 [.agg [LL hit, L miss], L uses] [] = some (B true, []) := by
  rw [call_eq pr 6 _ _ Try.f6 fn_6 _ rfl _ ann_6 rfl]
  by_cases gl : (uses.length : Int) > 1048576
  · simp -implicitDefEqProofs only [tr gl, go_sem, Nat.reduceAdd, Nat.reduceSub, Nat.reduceMul, Nat.reduceMod, Nat.reduceLT, Nat.reduceLeDiff, Nat.reduceEqDiff, Nat.reduceBEq, Nat.reduceDiv, Int.reduceLT, Int.reduceLE, Int.reduceToNat, Int.reduceNeg, Int.reduceEq, ↓reduceIte, reduceCtorEq, ↓reduceDIte, Bool.false_eq_true, Bool.true_eq_false, ne_eq, not_true_eq_false, not_false_eq_true, Bool.true_or, Bool.false_or, Bool.or_true, Bool.or_false, Bool.true_and, Bool.false_and, Bool.and_true, Bool.and_false, Bool.not_true, Bool.not_false, Bool.not_eq_false', Bool.not_eq_true', and_true, true_and, and_false, false_and, or_true, true_or, or_false, false_or, and_self, or_self, decide_eq_true_eq, decide_true, decide_false, decide_eq_false_iff_not, ite_not, if_true, if_false, eq_self]
  obtain ⟨r0, a0, b0, c0⟩ := sz_Policy (hit, miss, ()) hx 1048576 (by omega) (by omega)
  have a0 : callOf pr 14 [.agg [LL hit, L miss], I 1048576] [] = some (I r0, []) := a0
  by_cases g0 : r0 < 0
  · simp -implicitDefEqProofs only [fa gl, a0, tr g0, go_sem, Nat.reduceAdd, Nat.reduceSub, Nat.reduceMul, Nat.reduceMod, Nat.reduceLT, Nat.reduceLeDiff, Nat.reduceEqDiff, Nat.reduceBEq, Nat.reduceDiv, Int.reduceLT, Int.reduceLE, Int.reduceToNat, Int.reduceNeg, Int.reduceEq, ↓reduceIte, reduceCtorEq, ↓reduceDIte, Bool.false_eq_true, Bool.true_eq_false, ne_eq, not_true_eq_false, not_false_eq_true, Bool.true_or, Bool.false_or, Bool.or_true, Bool.or_false, Bool.true_and, Bool.false_and, Bool.and_true, Bool.and_false, Bool.not_true, Bool.not_false, Bool.not_eq_false', Bool.not_eq_true', and_true, true_and, and_false, false_and, or_true, true_or, or_false, false_or, and_self, or_self, decide_eq_true_eq, decide_true, decide_false, decide_eq_false_iff_not, ite_not, if_true, if_false, eq_self]
  have hxs : Bd small (.agg (.cons (.slice (.slice (.int .i64))) (.cons (.slice (.int .i64)) .nil))) (hit, miss, ()) := c0 (by omega)
  have hl1 : hit.length ≤ 1048576 := hxs.1.1
  have hl2 : miss.length ≤ 1048576 := hxs.2.1.1
  have hcl : ∀ l ∈ hit, l.length < 1000000000000000000 := fun l hl => by have : l.length ≤ 1048576 := (hxs.1.2 l hl).1; omega
  have t1 := to_Policy (hit, miss, ()) hxs
  have t2 := to_Int64S uses (by omega)
  have h1 := call_srp hit miss (by omega) (by omega) hcl uses (by omega)
  have h2 := call_irp hit miss (by omega) (by omega) hcl uses (by omega)
  have e1 := eq_Policy (hit, miss, ()) hx
  have e2 := eq_Int64S uses hu
  simp only at t1 e1
  have hg : cnt (.slice (.slice (.int .i64))) hit ≤ 1099511627776 := by
    have := cnt_le (n := small) (.slice (.slice (.int .i64))) hit hxs.1
    simp only [top, small] at this
    omega
  have hc2 := cnt_int miss
  have hc3 := cnt_int uses
  have k1 := mark_Policy hit miss 1 (by omega) (by simp only [wide]; omega) hx.1 hx.2.1
  have n1 := markD_end (.slice (.slice (.int .i64))) 1 hit
  have n2 := markD_end (.slice (.int .i64)) (markD (.slice (.slice (.int .i64))) 1 hit).2 miss
  have k2 := mark_Int64S uses (markD (.slice (.int .i64)) (markD (.slice (.slice (.int .i64))) 1 hit).2 miss).2 (by omega) (by simp only [wide]; omega) hu.1
  have n3 := markD_end (.slice (.int .i64)) (markD (.slice (.int .i64)) (markD (.slice (.slice (.int .i64))) 1 hit).2 miss).2 uses
  have k3 : ¬ (markD (.slice (.int .i64)) (markD (.slice (.int .i64)) (markD (.slice (.slice (.int .i64))) 1 hit).2 miss).2 uses).2 < 0 := by omega
  cases hf : fair hit miss uses with
  | false =>
    rw [hf, if_neg (by simp)] at h1 h2
    have m0 := markn_Int64S 1
    have q0 := heldn_Int64S 1
    simp -implicitDefEqProofs only [fa gl, a0, fa g0, t1, t2, h1, h2, e1, e2, BEq.rfl, beq_self_eq_true, eq_self_iff_true, k1, k2, fa k3, eqn_Int64S, m0, q0, go_sem, Nat.reduceAdd, Nat.reduceSub, Nat.reduceMul, Nat.reduceMod, Nat.reduceLT, Nat.reduceLeDiff, Nat.reduceEqDiff, Nat.reduceBEq, Nat.reduceDiv, Int.reduceLT, Int.reduceLE, Int.reduceToNat, Int.reduceNeg, Int.reduceEq, ↓reduceIte, reduceCtorEq, ↓reduceDIte, Bool.false_eq_true, Bool.true_eq_false, ne_eq, not_true_eq_false, not_false_eq_true, Bool.true_or, Bool.false_or, Bool.or_true, Bool.or_false, Bool.true_and, Bool.false_and, Bool.and_true, Bool.and_false, Bool.not_true, Bool.not_false, Bool.not_eq_false', Bool.not_eq_true', and_true, true_and, and_false, false_and, or_true, true_or, or_false, false_or, and_self, or_self, decide_eq_true_eq, decide_true, decide_false, decide_eq_false_iff_not, ite_not, if_true, if_false, eq_self]
  | true =>
    rw [hf, if_pos rfl] at h1 h2
    obtain ⟨hv, h6⟩ := fair_len hf
    obtain ⟨w1, w2, w3, w4, w5⟩ := validP_bound hv
    have l1 := (runC_length hit miss uses (emptyC miss)).1
    have l2 := runC_final hv uses (emptyC miss) (by simp [emptyC])
    generalize hrs : (runC hit miss (emptyC miss) uses).1 = hs at h1 h2 l1
    generalize hnw : (runC hit miss (emptyC miss) uses).2.2 = nw at h1 h2 l2
    have bd1 : Bd wide (.slice (.int .i64)) hs := ⟨by simp only [wide]; omega, fun _ _ => trivial⟩
    have bd2 : Bd wide (.slice (.int .i64)) nw := ⟨by simp only [wide]; omega, fun _ _ => trivial⟩
    have v1 := eq_Int64S hs bd1
    have v2 := eq_Int64S nw bd2
    have c1 := cnt_int hs
    have c2 := cnt_int nw
    have m1 := mark_Int64S hs 1 (by omega) (by simp only [wide]; omega) bd1.1
    have w1 := markD_end (.slice (.int .i64)) 1 hs
    have m2 := mark_Int64S nw (markD (.slice (.int .i64)) 1 hs).2 (by omega) (by simp only [wide]; omega) bd2.1
    have w2 := markD_end (.slice (.int .i64)) (markD (.slice (.int .i64)) 1 hs).2 nw
    have q1 := held_Int64S hs 1 (by omega) (by simp only [wide]; omega) bd1.1
    have q2 := held_Int64S nw (markD (.slice (.int .i64)) 1 hs).2 (by omega) (by simp only [wide]; omega) bd2.1
    have z1 : ¬ (markD (.slice (.int .i64)) 1 hs).2 < 0 := by omega
    have z2 : ¬ (markD (.slice (.int .i64)) (markD (.slice (.int .i64)) 1 hs).2 nw).2 < 0 := by omega
    rcases h2 with h2 | h2
    · simp -implicitDefEqProofs only [fa gl, a0, fa g0, t1, t2, h1, h2, e1, e2, BEq.rfl, beq_self_eq_true, eq_self_iff_true, k1, k2, fa k3, v1, v2, m1, m2, q1, q2, fa z1, fa z2, go_sem, Nat.reduceAdd, Nat.reduceSub, Nat.reduceMul, Nat.reduceMod, Nat.reduceLT, Nat.reduceLeDiff, Nat.reduceEqDiff, Nat.reduceBEq, Nat.reduceDiv, Int.reduceLT, Int.reduceLE, Int.reduceToNat, Int.reduceNeg, Int.reduceEq, ↓reduceIte, reduceCtorEq, ↓reduceDIte, Bool.false_eq_true, Bool.true_eq_false, ne_eq, not_true_eq_false, not_false_eq_true, Bool.true_or, Bool.false_or, Bool.or_true, Bool.or_false, Bool.true_and, Bool.false_and, Bool.and_true, Bool.and_false, Bool.not_true, Bool.not_false, Bool.not_eq_false', Bool.not_eq_true', and_true, true_and, and_false, false_and, or_true, true_or, or_false, false_or, and_self, or_self, decide_eq_true_eq, decide_true, decide_false, decide_eq_false_iff_not, ite_not, if_true, if_false, eq_self]
    · simp -implicitDefEqProofs only [fa gl, a0, fa g0, t1, t2, h1, h2, e1, e2, BEq.rfl, beq_self_eq_true, eq_self_iff_true, k1, k2, fa k3, v1, v2, m1, m2, q1, q2, fa z1, fa z2, go_sem, Nat.reduceAdd, Nat.reduceSub, Nat.reduceMul, Nat.reduceMod, Nat.reduceLT, Nat.reduceLeDiff, Nat.reduceEqDiff, Nat.reduceBEq, Nat.reduceDiv, Int.reduceLT, Int.reduceLE, Int.reduceToNat, Int.reduceNeg, Int.reduceEq, ↓reduceIte, reduceCtorEq, ↓reduceDIte, Bool.false_eq_true, Bool.true_eq_false, ne_eq, not_true_eq_false, not_false_eq_true, Bool.true_or, Bool.false_or, Bool.or_true, Bool.or_false, Bool.true_and, Bool.false_and, Bool.and_true, Bool.and_false, Bool.not_true, Bool.not_false, Bool.not_eq_false', Bool.not_eq_true', and_true, true_and, and_false, false_and, or_true, true_or, or_false, false_or, and_self, or_self, decide_eq_true_eq, decide_true, decide_false, decide_eq_false_iff_not, ite_not, if_true, if_false, eq_self]
end Go.Proofs.Ytfooniikopekoaa.PI
