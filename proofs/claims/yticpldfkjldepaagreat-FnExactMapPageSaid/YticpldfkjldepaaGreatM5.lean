/- The law of FnExactMapPage. -/
import Derived.Test.YticpldfkjldepaaGreatM4
namespace Go.Proofs.YticpldfkjldepaaGreat.PI
open Go Go.Q
set_option maxRecDepth 100000
set_option maxHeartbeats 4000000
set_option linter.unusedSimpArgs false
set_option linter.unusedVariables false
theorem law_mappage (r : List Int) (t : List (List En)) (b : List Ca) (p f : Int) (w : Bool) (hx : Bd wide (.agg (.cons (.slice (.int .i64)) (.cons (.slice (.slice tyE)) (.cons (.slice tyC) .nil)))) (r, t, b, ())) : callOf pr 4 [.agg [L r, LLE t, LC b], I p, I f, B w] [] = some (B true, []) := by
  obtain ⟨r0, a0, b0, c0⟩ := sz_Space (r, t, b, ()) hx 1048576 (by omega) (by omega)
  have a0 : callOf pr 18 [.agg [L r, LLE t, LC b], I 1048576] [] = some (I r0, []) := a0
  rw [call_eq pr 4 _ _ Tryz.f4 fn_4 _ rfl _ ann_4 rfl]
  by_cases g0 : r0 < 0
  · simp -implicitDefEqProofs only [a0, tr g0, go_sem, Nat.reduceAdd, Nat.reduceSub, Nat.reduceMul, Nat.reduceMod, Nat.reduceLT, Nat.reduceLeDiff, Nat.reduceEqDiff, Nat.reduceBEq, Nat.reduceDiv, Int.reduceLT, Int.reduceLE, Int.reduceToNat, Int.reduceNeg, Int.reduceEq, ↓reduceIte, reduceCtorEq, ↓reduceDIte]
  have hs : Bd small (.agg (.cons (.slice (.int .i64)) (.cons (.slice (.slice tyE)) (.cons (.slice tyC) .nil)))) (r, t, b, ()) := c0 (by omega)
  have hl1 : r.length ≤ 1048576 := hs.1.1
  have hl2 : t.length ≤ 1048576 := hs.2.1.1
  have hl3 : b.length ≤ 1048576 := hs.2.2.1.1
  have hcl : ∀ x ∈ t, x.length < 2000000 := fun x hx' => by have : x.length ≤ 1048576 := (hs.2.1.2 x hx').1; omega
  have t1 : callOf pr 20 [.agg [L r, LLE t, LC b]] [] = some (.agg [.os (.t 384), .os (.t 640), .os (.t 896)], [(384, .arr true false (.int .i64) r), (640, .arr true true (.slice tyE) t), (896, .arr true false tyC b)]) := to_Space (r, t, b, ()) hs
  have h1 := call_sm r t b p f w (by omega)
  have h2 := call_im r t b p f w (by omega) (by omega) hcl (by omega)
  have e1 : callOf pr 22 [.agg [L r, LLE t, LC b], .agg [L r, LLE t, LC b]] [] = some (B true, []) := eq_Space (r, t, b, ()) hx
  have k1 := mark_Space r t b 1 (by omega) (first_small hs) hx.1 hx.2.1 hx.2.2.1
  have k3 : ¬ (markD (.slice tyC) (markD (.slice (.slice tyE)) (markD (.slice (.int .i64)) 1 r).2 t).2 b).2 < 0 := by rw [end_eq]; exact end_pos 1 r t b (by omega)
  cases hsp : mapC r t b p f with
  | false =>
    rw [hsp, if_neg (by simp)] at h1 h2
    have m0 := markn_Space 1 (by omega)
    have q0 := heldn_Space 1 (by omega)
    simp -implicitDefEqProofs only [a0, fa g0, t1, h1, e1, BEq.rfl, beq_self_eq_true, k1, fa k3, eq_self_iff_true, h2, eqn_Space, m0, q0, go_sem, Nat.reduceAdd, Nat.reduceSub, Nat.reduceMul, Nat.reduceMod, Nat.reduceLT, Nat.reduceLeDiff, Nat.reduceEqDiff, Nat.reduceBEq, Nat.reduceDiv, Int.reduceLT, Int.reduceLE, Int.reduceToNat, Int.reduceNeg, Int.reduceEq, ↓reduceIte, reduceCtorEq, ↓reduceDIte]
  | true =>
    rw [hsp, if_pos rfl] at h1 h2
    obtain ⟨z1, z2, z3, z4⟩ := (map_sizes (w := w) hsp)
    obtain ⟨u1, u2, u3⟩ := bd_small z1 z2 z3 z4
    have u4 := end_small z1 z2 z3 z4
    have z0 := end_pos 1 (root2 r t p) (mapT r t p f w) (b) (by omega)
    rcases h2 with ⟨hb, h2⟩ | h2 | ⟨hb, h2⟩ | h2
    · have v0 := eq_sp (tv := LLE (mapT r t p f w)) (bv := .empS) (r := root2 r t p) (t := mapT r t p f w) (b := b) (.inl rfl) (.inr (.inr ⟨rfl, hb⟩)) u1 u2 u3
      have m0 := mark_s11 1 (root2 r t p) (mapT r t p f w) (b) (by omega) u4 u1 u2 u3 hb
      have q0 := held_sp (tv := LLE (mT 1 (root2 r t p) (mapT r t p f w))) (bv := .empS) (m := 1) (r := root2 r t p) (t := mapT r t p f w) (b := b) (.inl rfl) (.inr (.inr ⟨rfl, by rw [hb]; rfl⟩)) (by omega) u4 u1 u2 u3
      simp -implicitDefEqProofs only [a0, fa g0, t1, h1, e1, BEq.rfl, beq_self_eq_true, k1, fa k3, eq_self_iff_true, h2, v0, m0, q0, fa z0, go_sem, Nat.reduceAdd, Nat.reduceSub, Nat.reduceMul, Nat.reduceMod, Nat.reduceLT, Nat.reduceLeDiff, Nat.reduceEqDiff, Nat.reduceBEq, Nat.reduceDiv, Int.reduceLT, Int.reduceLE, Int.reduceToNat, Int.reduceNeg, Int.reduceEq, ↓reduceIte, reduceCtorEq, ↓reduceDIte]
    · have v0 := eq_sp (tv := LLE (mapT r t p f w)) (bv := LC (b)) (r := root2 r t p) (t := mapT r t p f w) (b := b) (.inl rfl) (.inl rfl) u1 u2 u3
      have m0 := mark_s12 1 (root2 r t p) (mapT r t p f w) (b) (by omega) u4 u1 u2 u3
      have q0 := held_sp (tv := LLE (mT 1 (root2 r t p) (mapT r t p f w))) (bv := LC (mB 1 (root2 r t p) (mapT r t p f w) (b))) (m := 1) (r := root2 r t p) (t := mapT r t p f w) (b := b) (.inl rfl) (.inl rfl) (by omega) u4 u1 u2 u3
      simp -implicitDefEqProofs only [a0, fa g0, t1, h1, e1, BEq.rfl, beq_self_eq_true, k1, fa k3, eq_self_iff_true, h2, v0, m0, q0, fa z0, go_sem, Nat.reduceAdd, Nat.reduceSub, Nat.reduceMul, Nat.reduceMod, Nat.reduceLT, Nat.reduceLeDiff, Nat.reduceEqDiff, Nat.reduceBEq, Nat.reduceDiv, Int.reduceLT, Int.reduceLE, Int.reduceToNat, Int.reduceNeg, Int.reduceEq, ↓reduceIte, reduceCtorEq, ↓reduceDIte]
    · have v0 := eq_sp (tv := LLE (mapT r t p f w)) (bv := .empS) (r := root2 r t p) (t := mapT r t p f w) (b := b) (.inl rfl) (.inr (.inr ⟨rfl, hb⟩)) u1 u2 u3
      have m0 := mark_s11 1 (root2 r t p) (mapT r t p f w) (b) (by omega) u4 u1 u2 u3 hb
      have q0 := held_sp (tv := LLE (mT 1 (root2 r t p) (mapT r t p f w))) (bv := .empS) (m := 1) (r := root2 r t p) (t := mapT r t p f w) (b := b) (.inl rfl) (.inr (.inr ⟨rfl, by rw [hb]; rfl⟩)) (by omega) u4 u1 u2 u3
      simp -implicitDefEqProofs only [a0, fa g0, t1, h1, e1, BEq.rfl, beq_self_eq_true, k1, fa k3, eq_self_iff_true, h2, v0, m0, q0, fa z0, go_sem, Nat.reduceAdd, Nat.reduceSub, Nat.reduceMul, Nat.reduceMod, Nat.reduceLT, Nat.reduceLeDiff, Nat.reduceEqDiff, Nat.reduceBEq, Nat.reduceDiv, Int.reduceLT, Int.reduceLE, Int.reduceToNat, Int.reduceNeg, Int.reduceEq, ↓reduceIte, reduceCtorEq, ↓reduceDIte]
    · have v0 := eq_sp (tv := LLE (mapT r t p f w)) (bv := LC (b)) (r := root2 r t p) (t := mapT r t p f w) (b := b) (.inl rfl) (.inl rfl) u1 u2 u3
      have m0 := mark_s12 1 (root2 r t p) (mapT r t p f w) (b) (by omega) u4 u1 u2 u3
      have q0 := held_sp (tv := LLE (mT 1 (root2 r t p) (mapT r t p f w))) (bv := LC (mB 1 (root2 r t p) (mapT r t p f w) (b))) (m := 1) (r := root2 r t p) (t := mapT r t p f w) (b := b) (.inl rfl) (.inl rfl) (by omega) u4 u1 u2 u3
      simp -implicitDefEqProofs only [a0, fa g0, t1, h1, e1, BEq.rfl, beq_self_eq_true, k1, fa k3, eq_self_iff_true, h2, v0, m0, q0, fa z0, go_sem, Nat.reduceAdd, Nat.reduceSub, Nat.reduceMul, Nat.reduceMod, Nat.reduceLT, Nat.reduceLeDiff, Nat.reduceEqDiff, Nat.reduceBEq, Nat.reduceDiv, Int.reduceLT, Int.reduceLE, Int.reduceToNat, Int.reduceNeg, Int.reduceEq, ↓reduceIte, reduceCtorEq, ↓reduceDIte]
end Go.Proofs.YticpldfkjldepaaGreat.PI
