/- The law of FnExactUsePage. -/
import Derived.Test.YtbapbghnageckaaGreatU9
namespace Go.Proofs.YtbapbghnageckaaGreat.PI
open Go Go.Q
set_option maxRecDepth 100000
set_option maxHeartbeats 4000000
set_option linter.unusedSimpArgs false
set_option linter.unusedVariables false
attribute [local go_sem] Nat.reduceAdd Nat.reduceSub Nat.reduceMul Nat.reduceMod Nat.reduceLT Nat.reduceLeDiff Nat.reduceEqDiff Nat.reduceBEq Nat.reduceDiv Int.reduceLT Int.reduceLE Int.reduceToNat Int.reduceNeg Int.reduceEq reduceCtorEq
attribute [local go_sem ↓] reduceIte reduceDIte
theorem use_sizes {r : List Int} {t : List (List En)} {b : List Ca} {k p : Int} (h : useC r t b k p = true) : r.length ≤ 100 ∧ (useR r t b k p).2.2.1.length ≤ 100 ∧ (∀ x ∈ (useR r t b k p).2.2.1, x.length ≤ 100) ∧ (useR r t b k p).2.2.2.length ≤ 100 := by
  simp only [useC, accB, Bool.and_eq_true] at h
  have F := (fit_spec h.1).use k h.2.2
  exact ⟨by have := F.root; omega, by have := F.few; omega, fun x hx => by rw [F.rows x hx]; omega, by have := F.buf; omega⟩
theorem law_usepage (r : List Int) (t : List (List En)) (b : List Ca) (k p : Int) (hx : Bd wide (.agg (.cons (.slice (.int .i64)) (.cons (.slice (.slice tyE)) (.cons (.slice tyC) .nil)))) (r, t, b, ())) : callOf pr 3 [.agg [L r, LLE t, LC b], .agg [I k, I p]] [] = some (B true, []) := by
  obtain ⟨r0, a0, b0, c0⟩ := sz_Space (r, t, b, ()) hx 1048576 (by omega) (by omega)
  have a0 : callOf pr 7 [.agg [L r, LLE t, LC b], I 1048576] [] = some (I r0, []) := a0
  have ta : callOf pr 10 [.agg [I k, I p]] [] = some (.agg [I k, I p], []) := to_Access (k, p, ())
  rw [call_eq pr 3 _ _ Tryz.f3 fn_3 _ rfl _ ann_3 rfl]
  by_cases g0 : r0 < 0
  · simp -implicitDefEqProofs only [a0, tr g0, go_sem]
  have hs : Bd small (.agg (.cons (.slice (.int .i64)) (.cons (.slice (.slice tyE)) (.cons (.slice tyC) .nil)))) (r, t, b, ()) := c0 (by omega)
  have hl1 : r.length ≤ 1048576 := hs.1.1
  have hl2 : t.length ≤ 1048576 := hs.2.1.1
  have hl3 : b.length ≤ 1048576 := hs.2.2.1.1
  have hcl : ∀ x ∈ t, x.length < 2000000 := fun x hx' => by have : x.length ≤ 1048576 := (hs.2.1.2 x hx').1; omega
  have t1 : callOf pr 9 [.agg [L r, LLE t, LC b]] [] = some (.agg [.os (.t 384), .os (.t 640), .os (.t 896)], [(384, .arr true false (.int .i64) r), (640, .arr true true (.slice tyE) t), (896, .arr true false tyC b)]) := to_Space (r, t, b, ()) hs
  have h1 := call_su r t b k p
  have h2 := call_iu r t b k p (by omega) (by omega) hcl (by omega)
  have e1 : callOf pr 12 [.agg [L r, LLE t, LC b], .agg [L r, LLE t, LC b]] [] = some (B true, []) := eq_Space (r, t, b, ()) hx
  have k1 := mark_Space r t b 1 (by omega) (first_small hs) hx.1 hx.2.1 hx.2.2.1
  have k3 : ¬ (markD (.slice tyC) (markD (.slice (.slice tyE)) (markD (.slice (.int .i64)) 1 r).2 t).2 b).2 < 0 := by rw [end_eq]; exact end_pos 1 r t b (by omega)
  cases hsp : useC r t b k p with
  | false =>
    rw [hsp, if_neg (by simp)] at h1 h2
    have m0 := markn_Space 1 (by omega)
    have q0 := heldn_Space 1 (by omega)
    simp -implicitDefEqProofs only [a0, fa g0, t1, ta, h1, e1, BEq.rfl, beq_self_eq_true, k1, fa k3, eq_self_iff_true, h2, eqn_Space, m0, q0, go_sem]
  | true =>
    rw [hsp, if_pos rfl] at h1 h2
    obtain ⟨z1, z2, z3, z4⟩ := (use_sizes hsp)
    obtain ⟨u1, u2, u3⟩ := bd_small z1 z2 z3 z4
    have u4 := end_small z1 z2 z3 z4
    have z0 := end_pos 1 (r) ((useR r t b k p).2.2.1) ((useR r t b k p).2.2.2) (by omega)
    rcases h1 with h1 | h1
    · rcases h2 with ⟨ht, hb, h2⟩ | ⟨ht, h2⟩ | ⟨hb, h2⟩ | h2 | h2
      · have v0 := eq_sp (tv := .nilS) (bv := .empS) (r := r) (t := (useR r t b k p).2.2.1) (b := (useR r t b k p).2.2.2) (.inr ⟨rfl, ht⟩) (.inr (.inr ⟨rfl, hb⟩)) u1 u2 u3
        have m0 := mark_s01 1 (r) ((useR r t b k p).2.2.1) ((useR r t b k p).2.2.2) (by omega) u4 u1 u2 u3 ⟨ht, hb⟩
        have q0 := held_sp (tv := .nilS) (bv := .empS) (m := 1) (r := r) (t := (useR r t b k p).2.2.1) (b := (useR r t b k p).2.2.2) (.inr ⟨rfl, by rw [ht]; rfl⟩) (.inr (.inr ⟨rfl, by rw [hb]; rfl⟩)) (by omega) u4 u1 u2 u3
        simp -implicitDefEqProofs only [a0, fa g0, t1, ta, h1, e1, BEq.rfl, beq_self_eq_true, k1, fa k3, eq_self_iff_true, h2, v0, m0, q0, fa z0, go_sem]
      · have v0 := eq_sp (tv := .nilS) (bv := LC ((useR r t b k p).2.2.2)) (r := r) (t := (useR r t b k p).2.2.1) (b := (useR r t b k p).2.2.2) (.inr ⟨rfl, ht⟩) (.inl rfl) u1 u2 u3
        have m0 := mark_s02 1 (r) ((useR r t b k p).2.2.1) ((useR r t b k p).2.2.2) (by omega) u4 u1 u2 u3 ht
        have q0 := held_sp (tv := .nilS) (bv := LC (mB 1 (r) ((useR r t b k p).2.2.1) ((useR r t b k p).2.2.2))) (m := 1) (r := r) (t := (useR r t b k p).2.2.1) (b := (useR r t b k p).2.2.2) (.inr ⟨rfl, by rw [ht]; rfl⟩) (.inl rfl) (by omega) u4 u1 u2 u3
        simp -implicitDefEqProofs only [a0, fa g0, t1, ta, h1, e1, BEq.rfl, beq_self_eq_true, k1, fa k3, eq_self_iff_true, h2, v0, m0, q0, fa z0, go_sem]
      · have v0 := eq_sp (tv := LLE ((useR r t b k p).2.2.1)) (bv := .empS) (r := r) (t := (useR r t b k p).2.2.1) (b := (useR r t b k p).2.2.2) (.inl rfl) (.inr (.inr ⟨rfl, hb⟩)) u1 u2 u3
        have m0 := mark_s11 1 (r) ((useR r t b k p).2.2.1) ((useR r t b k p).2.2.2) (by omega) u4 u1 u2 u3 hb
        have q0 := held_sp (tv := LLE (mT 1 (r) ((useR r t b k p).2.2.1))) (bv := .empS) (m := 1) (r := r) (t := (useR r t b k p).2.2.1) (b := (useR r t b k p).2.2.2) (.inl rfl) (.inr (.inr ⟨rfl, by rw [hb]; rfl⟩)) (by omega) u4 u1 u2 u3
        simp -implicitDefEqProofs only [a0, fa g0, t1, ta, h1, e1, BEq.rfl, beq_self_eq_true, k1, fa k3, eq_self_iff_true, h2, v0, m0, q0, fa z0, go_sem]
      · have v0 := eq_sp (tv := LLE ((useR r t b k p).2.2.1)) (bv := LC ((useR r t b k p).2.2.2)) (r := r) (t := (useR r t b k p).2.2.1) (b := (useR r t b k p).2.2.2) (.inl rfl) (.inl rfl) u1 u2 u3
        have m0 := mark_s12 1 (r) ((useR r t b k p).2.2.1) ((useR r t b k p).2.2.2) (by omega) u4 u1 u2 u3
        have q0 := held_sp (tv := LLE (mT 1 (r) ((useR r t b k p).2.2.1))) (bv := LC (mB 1 (r) ((useR r t b k p).2.2.1) ((useR r t b k p).2.2.2))) (m := 1) (r := r) (t := (useR r t b k p).2.2.1) (b := (useR r t b k p).2.2.2) (.inl rfl) (.inl rfl) (by omega) u4 u1 u2 u3
        simp -implicitDefEqProofs only [a0, fa g0, t1, ta, h1, e1, BEq.rfl, beq_self_eq_true, k1, fa k3, eq_self_iff_true, h2, v0, m0, q0, fa z0, go_sem]
      · have v0 := eq_sp (tv := LLE ((useR r t b k p).2.2.1)) (bv := LC ((useR r t b k p).2.2.2)) (r := r) (t := (useR r t b k p).2.2.1) (b := (useR r t b k p).2.2.2) (.inl rfl) (.inl rfl) u1 u2 u3
        have m0 := mark_s12 1 (r) ((useR r t b k p).2.2.1) ((useR r t b k p).2.2.2) (by omega) u4 u1 u2 u3
        have q0 := held_sp (tv := LLE (mT 1 (r) ((useR r t b k p).2.2.1))) (bv := LC (mB 1 (r) ((useR r t b k p).2.2.1) ((useR r t b k p).2.2.2))) (m := 1) (r := r) (t := (useR r t b k p).2.2.1) (b := (useR r t b k p).2.2.2) (.inl rfl) (.inl rfl) (by omega) u4 u1 u2 u3
        simp -implicitDefEqProofs only [a0, fa g0, t1, ta, h1, e1, BEq.rfl, beq_self_eq_true, k1, fa k3, eq_self_iff_true, h2, v0, m0, q0, fa z0, go_sem]
    · rcases h2 with ⟨ht, hb, h2⟩ | ⟨ht, h2⟩ | ⟨hb, h2⟩ | h2 | h2
      · have v0 := eq_sp (tv := .nilS) (bv := .empS) (r := r) (t := (useR r t b k p).2.2.1) (b := (useR r t b k p).2.2.2) (.inr ⟨rfl, ht⟩) (.inr (.inr ⟨rfl, hb⟩)) u1 u2 u3
        have m0 := mark_s01 1 (r) ((useR r t b k p).2.2.1) ((useR r t b k p).2.2.2) (by omega) u4 u1 u2 u3 ⟨ht, hb⟩
        have q0 := held_sp (tv := .nilS) (bv := .empS) (m := 1) (r := r) (t := (useR r t b k p).2.2.1) (b := (useR r t b k p).2.2.2) (.inr ⟨rfl, by rw [ht]; rfl⟩) (.inr (.inr ⟨rfl, by rw [hb]; rfl⟩)) (by omega) u4 u1 u2 u3
        simp -implicitDefEqProofs only [a0, fa g0, t1, ta, h1, e1, BEq.rfl, beq_self_eq_true, k1, fa k3, eq_self_iff_true, h2, v0, m0, q0, fa z0, go_sem]
      · have v0 := eq_sp (tv := .nilS) (bv := LC ((useR r t b k p).2.2.2)) (r := r) (t := (useR r t b k p).2.2.1) (b := (useR r t b k p).2.2.2) (.inr ⟨rfl, ht⟩) (.inl rfl) u1 u2 u3
        have m0 := mark_s02 1 (r) ((useR r t b k p).2.2.1) ((useR r t b k p).2.2.2) (by omega) u4 u1 u2 u3 ht
        have q0 := held_sp (tv := .nilS) (bv := LC (mB 1 (r) ((useR r t b k p).2.2.1) ((useR r t b k p).2.2.2))) (m := 1) (r := r) (t := (useR r t b k p).2.2.1) (b := (useR r t b k p).2.2.2) (.inr ⟨rfl, by rw [ht]; rfl⟩) (.inl rfl) (by omega) u4 u1 u2 u3
        simp -implicitDefEqProofs only [a0, fa g0, t1, ta, h1, e1, BEq.rfl, beq_self_eq_true, k1, fa k3, eq_self_iff_true, h2, v0, m0, q0, fa z0, go_sem]
      · have v0 := eq_sp (tv := LLE ((useR r t b k p).2.2.1)) (bv := .empS) (r := r) (t := (useR r t b k p).2.2.1) (b := (useR r t b k p).2.2.2) (.inl rfl) (.inr (.inr ⟨rfl, hb⟩)) u1 u2 u3
        have m0 := mark_s11 1 (r) ((useR r t b k p).2.2.1) ((useR r t b k p).2.2.2) (by omega) u4 u1 u2 u3 hb
        have q0 := held_sp (tv := LLE (mT 1 (r) ((useR r t b k p).2.2.1))) (bv := .empS) (m := 1) (r := r) (t := (useR r t b k p).2.2.1) (b := (useR r t b k p).2.2.2) (.inl rfl) (.inr (.inr ⟨rfl, by rw [hb]; rfl⟩)) (by omega) u4 u1 u2 u3
        simp -implicitDefEqProofs only [a0, fa g0, t1, ta, h1, e1, BEq.rfl, beq_self_eq_true, k1, fa k3, eq_self_iff_true, h2, v0, m0, q0, fa z0, go_sem]
      · have v0 := eq_sp (tv := LLE ((useR r t b k p).2.2.1)) (bv := LC ((useR r t b k p).2.2.2)) (r := r) (t := (useR r t b k p).2.2.1) (b := (useR r t b k p).2.2.2) (.inl rfl) (.inl rfl) u1 u2 u3
        have m0 := mark_s12 1 (r) ((useR r t b k p).2.2.1) ((useR r t b k p).2.2.2) (by omega) u4 u1 u2 u3
        have q0 := held_sp (tv := LLE (mT 1 (r) ((useR r t b k p).2.2.1))) (bv := LC (mB 1 (r) ((useR r t b k p).2.2.1) ((useR r t b k p).2.2.2))) (m := 1) (r := r) (t := (useR r t b k p).2.2.1) (b := (useR r t b k p).2.2.2) (.inl rfl) (.inl rfl) (by omega) u4 u1 u2 u3
        simp -implicitDefEqProofs only [a0, fa g0, t1, ta, h1, e1, BEq.rfl, beq_self_eq_true, k1, fa k3, eq_self_iff_true, h2, v0, m0, q0, fa z0, go_sem]
      · have v0 := eq_sp (tv := LLE ((useR r t b k p).2.2.1)) (bv := LC ((useR r t b k p).2.2.2)) (r := r) (t := (useR r t b k p).2.2.1) (b := (useR r t b k p).2.2.2) (.inl rfl) (.inl rfl) u1 u2 u3
        have m0 := mark_s12 1 (r) ((useR r t b k p).2.2.1) ((useR r t b k p).2.2.2) (by omega) u4 u1 u2 u3
        have q0 := held_sp (tv := LLE (mT 1 (r) ((useR r t b k p).2.2.1))) (bv := LC (mB 1 (r) ((useR r t b k p).2.2.1) ((useR r t b k p).2.2.2))) (m := 1) (r := r) (t := (useR r t b k p).2.2.1) (b := (useR r t b k p).2.2.2) (.inl rfl) (.inl rfl) (by omega) u4 u1 u2 u3
        simp -implicitDefEqProofs only [a0, fa g0, t1, ta, h1, e1, BEq.rfl, beq_self_eq_true, k1, fa k3, eq_self_iff_true, h2, v0, m0, q0, fa z0, go_sem]
end Go.Proofs.YtbapbghnageckaaGreat.PI
