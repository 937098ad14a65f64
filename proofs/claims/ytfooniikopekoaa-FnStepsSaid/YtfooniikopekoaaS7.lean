/- Policies that the reference draws. -/
import Derived.Test.YtfooniikopekoaaS3
namespace Go.Proofs.Ytfooniikopekoaa.PI
open Go Go.Q
set_option maxRecDepth 100000
set_option maxHeartbeats 4000000
set_option linter.unusedSimpArgs false
set_option linter.unusedVariables false
abbrev SB (bs : List Int) (at_ : Nat) (seed : Int) : Nat × Go.Q.Obj := (1000000, Go.Q.Obj.box [BY bs, I at_, .d (.int .u64) seed])
abbrev FA (h m : Nat) (bs : List Int) (at_ : Nat) (seed : Int) (hit : List (List Int)) (ms : List Int) : Option (AV × Heap) := some (.agg [.os (.t h), .os (.t m)], [SB bs at_ seed, (m, .arr true false (.int .i64) ms), (h, .arr true true (.slice (.int .i64)) hit)])
abbrev FB (h m : Nat) (bs : List Int) (at_ : Nat) (seed : Int) (hit : List (List Int)) (ms : List Int) : Option (AV × Heap) := some (.agg [.os (.t h), .os (.t m)], [SB bs at_ seed, (h, .arr true true (.slice (.int .i64)) hit), (m, .arr true false (.int .i64) ms)])
theorem dof_0 (bs : List Int) (at_ a1 : Nat) (seed s1 : Int) (n : Nat) (hit : List (List Int)) (ms : List Int) (h1 : callOf pr 61 [.op 1000000 0, I 7] (SRC bs at_ seed) = some (I 0, SRC bs a1 s1)) (hc : callOf pr 117 [I n] [] = some (.agg [.os (.t 1344), .os (.t 512)], [(512, .arr true false (.int .i64) ms), (1344, .arr true true (.slice (.int .i64)) hit)])) :
    callOf pr 98 [.op 1000000 0, I n] (SRC bs at_ seed) = FA 897 896 bs a1 s1 hit ms := by
  rw [call_eq pr 98 _ _ Try.f98 fn_98 _ rfl _ ann_98 rfl]
  simp -implicitDefEqProofs only [h1, hc, go_sem, Nat.reduceAdd, Nat.reduceSub, Nat.reduceMul, Nat.reduceMod, Nat.reduceLT, Nat.reduceLeDiff, Nat.reduceEqDiff, Nat.reduceBEq, Nat.reduceDiv, Int.reduceLT, Int.reduceLE, Int.reduceToNat, Int.reduceNeg, Int.reduceEq, ↓reduceIte, reduceCtorEq, ↓reduceDIte]
theorem dof_1 (bs : List Int) (at_ a1 : Nat) (seed s1 : Int) (n : Nat) (hit : List (List Int)) (ms : List Int) (h1 : callOf pr 61 [.op 1000000 0, I 7] (SRC bs at_ seed) = some (I 1, SRC bs a1 s1)) (hc : callOf pr 118 [I n] [] = some (.agg [.os (.t 1280), .os (.t 512)], [(512, .arr true false (.int .i64) ms), (1280, .arr true true (.slice (.int .i64)) hit)])) :
    callOf pr 98 [.op 1000000 0, I n] (SRC bs at_ seed) = FA 1153 1152 bs a1 s1 hit ms := by
  rw [call_eq pr 98 _ _ Try.f98 fn_98 _ rfl _ ann_98 rfl]
  simp -implicitDefEqProofs only [h1, hc, go_sem, Nat.reduceAdd, Nat.reduceSub, Nat.reduceMul, Nat.reduceMod, Nat.reduceLT, Nat.reduceLeDiff, Nat.reduceEqDiff, Nat.reduceBEq, Nat.reduceDiv, Int.reduceLT, Int.reduceLE, Int.reduceToNat, Int.reduceNeg, Int.reduceEq, ↓reduceIte, reduceCtorEq, ↓reduceDIte]
theorem dof_2 (bs : List Int) (at_ a1 : Nat) (seed s1 : Int) (n : Nat) (hit : List (List Int)) (ms : List Int) (h1 : callOf pr 61 [.op 1000000 0, I 7] (SRC bs at_ seed) = some (I 2, SRC bs a1 s1)) (hc : callOf pr 119 [I n] [] = some (.agg [.os (.t 1216), .os (.t 384)], [(384, .arr true false (.int .i64) ms), (1216, .arr true true (.slice (.int .i64)) hit)])) :
    callOf pr 98 [.op 1000000 0, I n] (SRC bs at_ seed) = FA 1409 1408 bs a1 s1 hit ms := by
  rw [call_eq pr 98 _ _ Try.f98 fn_98 _ rfl _ ann_98 rfl]
  simp -implicitDefEqProofs only [h1, hc, go_sem, Nat.reduceAdd, Nat.reduceSub, Nat.reduceMul, Nat.reduceMod, Nat.reduceLT, Nat.reduceLeDiff, Nat.reduceEqDiff, Nat.reduceBEq, Nat.reduceDiv, Int.reduceLT, Int.reduceLE, Int.reduceToNat, Int.reduceNeg, Int.reduceEq, ↓reduceIte, reduceCtorEq, ↓reduceDIte]
theorem dof_t2 (bs : List Int) (at_ a1 : Nat) (seed s1 : Int) (h1 : callOf pr 61 [.op 1000000 0, I 7] (SRC bs at_ seed) = some (I 3, SRC bs a1 s1)) :
    callOf pr 98 [.op 1000000 0, I 2] (SRC bs at_ seed) = FB 2048 2049 bs a1 s1 [[0, 1], [1, 0]] [1, 0] := by
  have hc := dt2
  rw [call_eq pr 98 _ _ Try.f98 fn_98 _ rfl _ ann_98 rfl]
  simp -implicitDefEqProofs only [h1, hc, go_sem, Nat.reduceAdd, Nat.reduceSub, Nat.reduceMul, Nat.reduceMod, Nat.reduceLT, Nat.reduceLeDiff, Nat.reduceEqDiff, Nat.reduceBEq, Nat.reduceDiv, Int.reduceLT, Int.reduceLE, Int.reduceToNat, Int.reduceNeg, Int.reduceEq, ↓reduceIte, reduceCtorEq, ↓reduceDIte]
theorem dof_t4 (bs : List Int) (at_ a1 : Nat) (seed s1 : Int) (h1 : callOf pr 61 [.op 1000000 0, I 7] (SRC bs at_ seed) = some (I 3, SRC bs a1 s1)) :
    callOf pr 98 [.op 1000000 0, I 4] (SRC bs at_ seed) = FB 2048 2049 bs a1 s1 [[0, 1, 2, 3], [1, 0, 2, 3], [2, 3, 0, 1], [3, 2, 0, 1]] [3, 2, 0, 1] := by
  have hc := dt4
  rw [call_eq pr 98 _ _ Try.f98 fn_98 _ rfl _ ann_98 rfl]
  simp -implicitDefEqProofs only [h1, hc, go_sem, Nat.reduceAdd, Nat.reduceSub, Nat.reduceMul, Nat.reduceMod, Nat.reduceLT, Nat.reduceLeDiff, Nat.reduceEqDiff, Nat.reduceBEq, Nat.reduceDiv, Int.reduceLT, Int.reduceLE, Int.reduceToNat, Int.reduceNeg, Int.reduceEq, ↓reduceIte, reduceCtorEq, ↓reduceDIte]
theorem dof_4 (bs : List Int) (at_ a1 a2 : Nat) (seed s1 s2 w : Int) (n : Nat) (hit : List (List Int)) (ms : List Int) (h1 : callOf pr 61 [.op 1000000 0, I 7] (SRC bs at_ seed) = some (I 4, SRC bs a1 s1)) (h2 : callOf pr 61 [.op 1000000 0, I 50000] (SRC bs a1 s1) = some (I w, SRC bs a2 s2))
    (hw : IntKind.i64.wrap (1 + w) = 1 + w) (hc : callOf pr 121 [I n, I (1 + w)] [] = some (.agg [.os (.t 1600), .os (.t 1984)], [(1600, .arr true true (.slice (.int .i64)) hit), (1984, .arr true false (.int .i64) ms)])) :
    callOf pr 98 [.op 1000000 0, I n] (SRC bs at_ seed) = FB 2496 2497 bs a2 s2 hit ms := by
  rw [call_eq pr 98 _ _ Try.f98 fn_98 _ rfl _ ann_98 rfl]
  simp -implicitDefEqProofs only [h1, h2, hw, hc, go_sem, Nat.reduceAdd, Nat.reduceSub, Nat.reduceMul, Nat.reduceMod, Nat.reduceLT, Nat.reduceLeDiff, Nat.reduceEqDiff, Nat.reduceBEq, Nat.reduceDiv, Int.reduceLT, Int.reduceLE, Int.reduceToNat, Int.reduceNeg, Int.reduceEq, ↓reduceIte, reduceCtorEq, ↓reduceDIte]
theorem dof_fa (bs : List Int) (at_ a1 a2 a3 a4 a5 : Nat) (seed v s1 s2 s3 s4 s5 s6 w : Int) (k n : Nat) (hkn : k < n) (hv : v = 3 ∧ ¬ (n : Int) = 2 ∧ ¬ (n : Int) = 4 ∨ v = 5 ∨ v = 6) (hit : List (List Int)) (ms ys : List Int) (hl : hit.length = n) (hw : IntKind.i64.wrap (1 + w) = 1 + w) (h1 : callOf pr 61 [.op 1000000 0, I 7] (SRC bs at_ seed) = some (I v, SRC bs a1 s1)) (hc : callOf pr 117 [I n] [] = some (.agg [.os (.t 1344), .os (.t 512)], [(512, .arr true false (.int .i64) ms), (1344, .arr true true (.slice (.int .i64)) hit)])) (h2 : callOf pr 61 [.op 1000000 0, I n] (SRC bs a1 s1) = some (I k, SRC bs a2 s2)) (h3 : callOf pr 61 [.op 1000000 0, I 50000] (SRC bs a2 s2) = some (I w, SRC bs a3 s3)) (ho : callOf pr 122 [I (1 + w), I n] [] = some (.tuple [.os (.t 704), I s6], [(704, .arr true false (.int .i64) ys)])) (h4 : callOf pr 97 [.op 1000000 0, I 2] (SRC bs a3 s3) = some (B true, SRC bs a4 s4)) : callOf pr 98 [.op 1000000 0, I n] (SRC bs at_ seed) = FA 2625 2624 bs a4 s4 (hit.set k ys) ms := by
  have v0 : (v = 0) = False := fa (by omega)
  have v1 : (v = 1) = False := fa (by omega)
  have v2 : (v = 2) = False := fa (by omega)
  have v4 : (v = 4) = False := fa (by omega)
  rcases hv with ⟨v3, n2, n4⟩ | v3 | v3
  · rw [call_eq pr 98 _ _ Try.f98 fn_98 _ rfl _ ann_98 rfl]
    simp -implicitDefEqProofs only [h1, v0, v1, v2, v4, tr v3, fa n2, fa n4, hc, h2, h3, hw, ho, h4, lt_cast hkn, hl, zero_le_cast, Int.toNat_natCast, h4, go_sem, Nat.reduceAdd, Nat.reduceSub, Nat.reduceMul, Nat.reduceMod, Nat.reduceLT, Nat.reduceLeDiff, Nat.reduceEqDiff, Nat.reduceBEq, Nat.reduceDiv, Int.reduceLT, Int.reduceLE, Int.reduceToNat, Int.reduceNeg, Int.reduceEq, ↓reduceIte, reduceCtorEq, ↓reduceDIte]
  · have v3 : (v = 3) = False := fa (by omega)
    rw [call_eq pr 98 _ _ Try.f98 fn_98 _ rfl _ ann_98 rfl]
    simp -implicitDefEqProofs only [h1, v0, v1, v2, v4, v3, hc, h2, h3, hw, ho, h4, lt_cast hkn, hl, zero_le_cast, Int.toNat_natCast, h4, go_sem, Nat.reduceAdd, Nat.reduceSub, Nat.reduceMul, Nat.reduceMod, Nat.reduceLT, Nat.reduceLeDiff, Nat.reduceEqDiff, Nat.reduceBEq, Nat.reduceDiv, Int.reduceLT, Int.reduceLE, Int.reduceToNat, Int.reduceNeg, Int.reduceEq, ↓reduceIte, reduceCtorEq, ↓reduceDIte]
  · have v3 : (v = 3) = False := fa (by omega)
    rw [call_eq pr 98 _ _ Try.f98 fn_98 _ rfl _ ann_98 rfl]
    simp -implicitDefEqProofs only [h1, v0, v1, v2, v4, v3, hc, h2, h3, hw, ho, h4, lt_cast hkn, hl, zero_le_cast, Int.toNat_natCast, h4, go_sem, Nat.reduceAdd, Nat.reduceSub, Nat.reduceMul, Nat.reduceMod, Nat.reduceLT, Nat.reduceLeDiff, Nat.reduceEqDiff, Nat.reduceBEq, Nat.reduceDiv, Int.reduceLT, Int.reduceLE, Int.reduceToNat, Int.reduceNeg, Int.reduceEq, ↓reduceIte, reduceCtorEq, ↓reduceDIte]
theorem dof_fb (bs : List Int) (at_ a1 a2 a3 a4 a5 : Nat) (seed v s1 s2 s3 s4 s5 s6 w : Int) (k n : Nat) (hkn : k < n) (hv : v = 3 ∧ ¬ (n : Int) = 2 ∧ ¬ (n : Int) = 4 ∨ v = 5 ∨ v = 6) (hit : List (List Int)) (ms ys : List Int) (hl : hit.length = n) (hw : IntKind.i64.wrap (1 + w) = 1 + w) (h1 : callOf pr 61 [.op 1000000 0, I 7] (SRC bs at_ seed) = some (I v, SRC bs a1 s1)) (hc : callOf pr 117 [I n] [] = some (.agg [.os (.t 1344), .os (.t 512)], [(512, .arr true false (.int .i64) ms), (1344, .arr true true (.slice (.int .i64)) hit)])) (h2 : callOf pr 61 [.op 1000000 0, I n] (SRC bs a1 s1) = some (I k, SRC bs a2 s2)) (h3 : callOf pr 61 [.op 1000000 0, I 50000] (SRC bs a2 s2) = some (I w, SRC bs a3 s3)) (ho : callOf pr 122 [I (1 + w), I n] [] = some (.tuple [.os (.t 704), I s6], [(704, .arr true false (.int .i64) ys)])) (h4 : callOf pr 97 [.op 1000000 0, I 2] (SRC bs a3 s3) = some (B false, SRC bs a4 s4)) (h5 : callOf pr 97 [.op 1000000 0, I 2] (SRC bs a4 s4) = some (B true, SRC bs a5 s5)) (zs : List Int) (h6 : callOf pr 123 [I n] [] = some (.os (.t 384), [(384, .arr true false (.int .i64) zs)])) : callOf pr 98 [.op 1000000 0, I n] (SRC bs at_ seed) = FA 2625 2624 bs a5 s5 (hit.set k zs) ms := by
  have v0 : (v = 0) = False := fa (by omega)
  have v1 : (v = 1) = False := fa (by omega)
  have v2 : (v = 2) = False := fa (by omega)
  have v4 : (v = 4) = False := fa (by omega)
  rcases hv with ⟨v3, n2, n4⟩ | v3 | v3
  · rw [call_eq pr 98 _ _ Try.f98 fn_98 _ rfl _ ann_98 rfl]
    simp -implicitDefEqProofs only [h1, v0, v1, v2, v4, tr v3, fa n2, fa n4, hc, h2, h3, hw, ho, h4, lt_cast hkn, hl, zero_le_cast, Int.toNat_natCast, h5, h6, go_sem, Nat.reduceAdd, Nat.reduceSub, Nat.reduceMul, Nat.reduceMod, Nat.reduceLT, Nat.reduceLeDiff, Nat.reduceEqDiff, Nat.reduceBEq, Nat.reduceDiv, Int.reduceLT, Int.reduceLE, Int.reduceToNat, Int.reduceNeg, Int.reduceEq, ↓reduceIte, reduceCtorEq, ↓reduceDIte]
  · have v3 : (v = 3) = False := fa (by omega)
    rw [call_eq pr 98 _ _ Try.f98 fn_98 _ rfl _ ann_98 rfl]
    simp -implicitDefEqProofs only [h1, v0, v1, v2, v4, v3, hc, h2, h3, hw, ho, h4, lt_cast hkn, hl, zero_le_cast, Int.toNat_natCast, h5, h6, go_sem, Nat.reduceAdd, Nat.reduceSub, Nat.reduceMul, Nat.reduceMod, Nat.reduceLT, Nat.reduceLeDiff, Nat.reduceEqDiff, Nat.reduceBEq, Nat.reduceDiv, Int.reduceLT, Int.reduceLE, Int.reduceToNat, Int.reduceNeg, Int.reduceEq, ↓reduceIte, reduceCtorEq, ↓reduceDIte]
  · have v3 : (v = 3) = False := fa (by omega)
    rw [call_eq pr 98 _ _ Try.f98 fn_98 _ rfl _ ann_98 rfl]
    simp -implicitDefEqProofs only [h1, v0, v1, v2, v4, v3, hc, h2, h3, hw, ho, h4, lt_cast hkn, hl, zero_le_cast, Int.toNat_natCast, h5, h6, go_sem, Nat.reduceAdd, Nat.reduceSub, Nat.reduceMul, Nat.reduceMod, Nat.reduceLT, Nat.reduceLeDiff, Nat.reduceEqDiff, Nat.reduceBEq, Nat.reduceDiv, Int.reduceLT, Int.reduceLE, Int.reduceToNat, Int.reduceNeg, Int.reduceEq, ↓reduceIte, reduceCtorEq, ↓reduceDIte]
theorem dof_fc (bs : List Int) (at_ a1 a2 a3 a4 a5 : Nat) (seed v s1 s2 s3 s4 s5 s6 w : Int) (k n : Nat) (hkn : k < n) (hv : v = 3 ∧ ¬ (n : Int) = 2 ∧ ¬ (n : Int) = 4 ∨ v = 5 ∨ v = 6) (hit : List (List Int)) (ms ys : List Int) (hl : hit.length = n) (hw : IntKind.i64.wrap (1 + w) = 1 + w) (h1 : callOf pr 61 [.op 1000000 0, I 7] (SRC bs at_ seed) = some (I v, SRC bs a1 s1)) (hc : callOf pr 117 [I n] [] = some (.agg [.os (.t 1344), .os (.t 512)], [(512, .arr true false (.int .i64) ms), (1344, .arr true true (.slice (.int .i64)) hit)])) (h2 : callOf pr 61 [.op 1000000 0, I n] (SRC bs a1 s1) = some (I k, SRC bs a2 s2)) (h3 : callOf pr 61 [.op 1000000 0, I 50000] (SRC bs a2 s2) = some (I w, SRC bs a3 s3)) (ho : callOf pr 122 [I (1 + w), I n] [] = some (.tuple [.os (.t 704), I s6], [(704, .arr true false (.int .i64) ys)])) (h4 : callOf pr 97 [.op 1000000 0, I 2] (SRC bs a3 s3) = some (B false, SRC bs a4 s4)) (h5 : callOf pr 97 [.op 1000000 0, I 2] (SRC bs a4 s4) = some (B false, SRC bs a5 s5)) : callOf pr 98 [.op 1000000 0, I n] (SRC bs at_ seed) = FB 2625 3200 bs a5 s5 hit ys := by
  have v0 : (v = 0) = False := fa (by omega)
  have v1 : (v = 1) = False := fa (by omega)
  have v2 : (v = 2) = False := fa (by omega)
  have v4 : (v = 4) = False := fa (by omega)
  rcases hv with ⟨v3, n2, n4⟩ | v3 | v3
  · rw [call_eq pr 98 _ _ Try.f98 fn_98 _ rfl _ ann_98 rfl]
    simp -implicitDefEqProofs only [h1, v0, v1, v2, v4, tr v3, fa n2, fa n4, hc, h2, h3, hw, ho, h4, lt_cast hkn, hl, zero_le_cast, Int.toNat_natCast, h5, go_sem, Nat.reduceAdd, Nat.reduceSub, Nat.reduceMul, Nat.reduceMod, Nat.reduceLT, Nat.reduceLeDiff, Nat.reduceEqDiff, Nat.reduceBEq, Nat.reduceDiv, Int.reduceLT, Int.reduceLE, Int.reduceToNat, Int.reduceNeg, Int.reduceEq, ↓reduceIte, reduceCtorEq, ↓reduceDIte]
  · have v3 : (v = 3) = False := fa (by omega)
    rw [call_eq pr 98 _ _ Try.f98 fn_98 _ rfl _ ann_98 rfl]
    simp -implicitDefEqProofs only [h1, v0, v1, v2, v4, v3, hc, h2, h3, hw, ho, h4, lt_cast hkn, hl, zero_le_cast, Int.toNat_natCast, h5, go_sem, Nat.reduceAdd, Nat.reduceSub, Nat.reduceMul, Nat.reduceMod, Nat.reduceLT, Nat.reduceLeDiff, Nat.reduceEqDiff, Nat.reduceBEq, Nat.reduceDiv, Int.reduceLT, Int.reduceLE, Int.reduceToNat, Int.reduceNeg, Int.reduceEq, ↓reduceIte, reduceCtorEq, ↓reduceDIte]
  · have v3 : (v = 3) = False := fa (by omega)
    rw [call_eq pr 98 _ _ Try.f98 fn_98 _ rfl _ ann_98 rfl]
    simp -implicitDefEqProofs only [h1, v0, v1, v2, v4, v3, hc, h2, h3, hw, ho, h4, lt_cast hkn, hl, zero_le_cast, Int.toNat_natCast, h5, go_sem, Nat.reduceAdd, Nat.reduceSub, Nat.reduceMul, Nat.reduceMod, Nat.reduceLT, Nat.reduceLeDiff, Nat.reduceEqDiff, Nat.reduceBEq, Nat.reduceDiv, Int.reduceLT, Int.reduceLE, Int.reduceToNat, Int.reduceNeg, Int.reduceEq, ↓reduceIte, reduceCtorEq, ↓reduceDIte]
/-- What a draw of a policy is. -/
def Drawn (bs : List Int) (at_ : Nat) (n : Nat) (r : Option (AV × Heap)) : Prop := ∃ (hit : List (List Int)) (ms : List Int) (at' : Nat) (sd' : Int), validP hit ms = true ∧ ms.length = n ∧ at' ≤ at_ + 10 ∧
  (r = FA 897 896 bs at' sd' hit ms ∨ r = FA 1153 1152 bs at' sd' hit ms ∨ r = FA 1409 1408 bs at' sd' hit ms ∨ r = FA 2625 2624 bs at' sd' hit ms ∨ r = FB 2048 2049 bs at' sd' hit ms ∨ r = FB 2496 2497 bs at' sd' hit ms ∨ r = FB 2625 3200 bs at' sd' hit ms)
theorem call_dof (bs : List Int) (hb : okBy bs) (at_ : Nat) (ha : at_ ≤ 800000) (seed : Int) (n : Nat) (hn : 1 ≤ n ∧ n ≤ 6) : Drawn bs at_ n (callOf pr 98 [.op 1000000 0, I n] (SRC bs at_ seed)) := by
  obtain ⟨v, a1, s1, hv, ha1, h1⟩ := call_pick bs hb at_ (by omega) seed 7 (by omega)
  by_cases v0 : v = 0
  · subst v0
    exact ⟨_, _, a1, s1, vala hn, mvF_len2 hn, by omega, .inl (dof_0 bs at_ a1 seed s1 n _ _ h1 (da n hn.1 hn.2))⟩
  by_cases v1 : v = 1
  · subst v1
    exact ⟨_, _, a1, s1, valb hn, mvF_len2 hn, by omega, .inr (.inl (dof_1 bs at_ a1 seed s1 n _ _ h1 (db n hn.1 hn.2)))⟩
  by_cases v2 : v = 2
  · subst v2
    exact ⟨_, _, a1, s1, valc hn, (order_bound (sam_order hn)).1, by omega, .inr (.inr (.inl (dof_2 bs at_ a1 seed s1 n _ _ h1 (dc n hn.1 hn.2))))⟩
  by_cases v32 : v = 3 ∧ (n : Int) = 2
  · obtain ⟨rfl, hn2⟩ := v32
    obtain rfl : n = 2 := by omega
    exact ⟨_, _, a1, s1, val2, rfl, by omega, .inr (.inr (.inr (.inr (.inl (dof_t2 bs at_ a1 seed s1 h1)))))⟩
  by_cases v34 : v = 3 ∧ (n : Int) = 4
  · obtain ⟨rfl, hn2⟩ := v34
    obtain rfl : n = 4 := by omega
    exact ⟨_, _, a1, s1, val4, rfl, by omega, .inr (.inr (.inr (.inr (.inl (dof_t4 bs at_ a1 seed s1 h1)))))⟩
  by_cases v4 : v = 4
  · subst v4
    obtain ⟨w, a2, s2, hw, ha2, h2⟩ := call_pickL bs hb a1 (by omega) s1 50000 (by omega)
    have hww : IntKind.i64.wrap (1 + w) = 1 + w := by rw [wrap_i] <;> omega
    obtain ⟨hit, ms, q1, q2, q3, q4⟩ := dseed n hn.1 hn.2 (1 + w) (by omega)
    exact ⟨hit, ms, a2, s2, valid_perm hn q1 q2 q3, by rw [q3.length_eq, ascL_length], by omega, .inr (.inr (.inr (.inr (.inr (.inl (dof_4 bs at_ a1 a2 seed s1 s2 w n hit ms h1 h2 hww q4))))))⟩
  have hfall : v = 3 ∧ ¬ (n : Int) = 2 ∧ ¬ (n : Int) = 4 ∨ v = 5 ∨ v = 6 := by
    by_cases v3 : v = 3
    · exact .inl ⟨v3, fun e => v32 ⟨v3, e⟩, fun e => v34 ⟨v3, e⟩⟩
    · exact .inr (by omega)
  obtain ⟨k, a2, s2, hk, ha2, h2⟩ := call_pick bs hb a1 (by omega) s1 n (by omega)
  obtain ⟨k, rfl⟩ : ∃ j : Nat, k = j := ⟨k.toNat, by omega⟩
  obtain ⟨w, a3, s3, hw, ha3, h3⟩ := call_pickL bs hb a2 (by omega) s2 50000 (by omega)
  have hww : IntKind.i64.wrap (1 + w) = 1 + w := by rw [wrap_i] <;> omega
  obtain ⟨s6, ys, _, hys, ho⟩ := call_ord (1 + w) (by omega) n hn.1 (by omega)
  obtain ⟨q, a4, s4, ha4, h4⟩ := call_one bs hb a3 (by omega) s3 2 (by omega)
  have hc := da n hn.1 hn.2
  have hlen : (rowsL (mvF n) n).length = n := rowsL_length _ n
  have hm := mvF_len2 hn
  cases q with
  | true =>
    exact ⟨_, _, a4, s4, valid_set (vala hn) k (by rw [hm]; exact order_perm hys), hm, by omega, .inr (.inr (.inr (.inl (dof_fa bs at_ a1 a2 a3 a4 a4 seed v s1 s2 s3 s4 s4 s6 w k n (by omega) hfall _ _ ys hlen hww h1 hc h2 h3 ho h4))))⟩
  | false =>
    obtain ⟨q, a5, s5, ha5, h5⟩ := call_one bs hb a4 (by omega) s4 2 (by omega)
    cases q with
    | true =>
      exact ⟨_, _, a5, s5, valid_set (vala hn) k (by rw [hm]; exact sam_order hn), hm, by omega, .inr (.inr (.inr (.inl (dof_fb bs at_ a1 a2 a3 a4 a5 seed v s1 s2 s3 s4 s5 s6 w k n (by omega) hfall _ _ ys hlen hww h1 hc h2 h3 ho h4 h5 _ (call_sam n hn.1 (by omega))))))⟩
    | false =>
      exact ⟨_, _, a5, s5, valid_miss (vala hn) (by rw [hm]; exact order_perm hys), by rw [hys.length_eq, ascL_length], by omega, .inr (.inr (.inr (.inr (.inr (.inr (dof_fc bs at_ a1 a2 a3 a4 a5 seed v s1 s2 s3 s4 s5 s6 w k n (by omega) hfall _ _ ys hlen hww h1 hc h2 h3 ho h4 h5))))))⟩
theorem dok_1 (bs : List Int) (a1 a2 a3 : Nat) (s1 s2 s3 v : Int) (n : Nat) (q : Bool) (hit : List (List Int)) (ms : List Int) (h1 : callOf pr 61 [.op 1000000 0, I 4] (SRC bs 0 0) = some (I v, SRC bs a1 s1)) (hw : IntKind.i64.wrap (1 + v) = 1 + v) (h2 : callOf pr 97 [.op 1000000 0, I 6] (SRC bs a1 s1) = some (B q, SRC bs a2 s2)) (hn : (if q = true then 6 else 1 + v) = (n : Int))
    (h3 : callOf pr 98 [.op 1000000 0, I n] (SRC bs a2 s2) = FA 897 896 bs a3 s3 hit ms) : callOf pr 69 [.op 1000000 0] (SRC bs 0 0) = FA 705 704 bs a3 s3 hit ms := by
  cases q with
  | true =>
    rw [if_pos rfl] at hn
    rw [← hn] at h3
    rw [call_eq pr 69 _ _ Try.f69 fn_69 _ rfl _ ann_69 rfl]
    simp -implicitDefEqProofs only [h1, hw, h2, h3, go_sem, Nat.reduceAdd, Nat.reduceSub, Nat.reduceMul, Nat.reduceMod, Nat.reduceLT, Nat.reduceLeDiff, Nat.reduceEqDiff, Nat.reduceBEq, Nat.reduceDiv, Int.reduceLT, Int.reduceLE, Int.reduceToNat, Int.reduceNeg, Int.reduceEq, ↓reduceIte, reduceCtorEq, ↓reduceDIte]
  | false =>
    rw [if_neg (by simp)] at hn
    rw [← hn] at h3
    rw [call_eq pr 69 _ _ Try.f69 fn_69 _ rfl _ ann_69 rfl]
    simp -implicitDefEqProofs only [h1, hw, h2, h3, go_sem, Nat.reduceAdd, Nat.reduceSub, Nat.reduceMul, Nat.reduceMod, Nat.reduceLT, Nat.reduceLeDiff, Nat.reduceEqDiff, Nat.reduceBEq, Nat.reduceDiv, Int.reduceLT, Int.reduceLE, Int.reduceToNat, Int.reduceNeg, Int.reduceEq, ↓reduceIte, reduceCtorEq, ↓reduceDIte]
theorem dok_2 (bs : List Int) (a1 a2 a3 : Nat) (s1 s2 s3 v : Int) (n : Nat) (q : Bool) (hit : List (List Int)) (ms : List Int) (h1 : callOf pr 61 [.op 1000000 0, I 4] (SRC bs 0 0) = some (I v, SRC bs a1 s1)) (hw : IntKind.i64.wrap (1 + v) = 1 + v) (h2 : callOf pr 97 [.op 1000000 0, I 6] (SRC bs a1 s1) = some (B q, SRC bs a2 s2)) (hn : (if q = true then 6 else 1 + v) = (n : Int))
    (h3 : callOf pr 98 [.op 1000000 0, I n] (SRC bs a2 s2) = FA 1153 1152 bs a3 s3 hit ms) : callOf pr 69 [.op 1000000 0] (SRC bs 0 0) = FA 705 704 bs a3 s3 hit ms := by
  cases q with
  | true =>
    rw [if_pos rfl] at hn
    rw [← hn] at h3
    rw [call_eq pr 69 _ _ Try.f69 fn_69 _ rfl _ ann_69 rfl]
    simp -implicitDefEqProofs only [h1, hw, h2, h3, go_sem, Nat.reduceAdd, Nat.reduceSub, Nat.reduceMul, Nat.reduceMod, Nat.reduceLT, Nat.reduceLeDiff, Nat.reduceEqDiff, Nat.reduceBEq, Nat.reduceDiv, Int.reduceLT, Int.reduceLE, Int.reduceToNat, Int.reduceNeg, Int.reduceEq, ↓reduceIte, reduceCtorEq, ↓reduceDIte]
  | false =>
    rw [if_neg (by simp)] at hn
    rw [← hn] at h3
    rw [call_eq pr 69 _ _ Try.f69 fn_69 _ rfl _ ann_69 rfl]
    simp -implicitDefEqProofs only [h1, hw, h2, h3, go_sem, Nat.reduceAdd, Nat.reduceSub, Nat.reduceMul, Nat.reduceMod, Nat.reduceLT, Nat.reduceLeDiff, Nat.reduceEqDiff, Nat.reduceBEq, Nat.reduceDiv, Int.reduceLT, Int.reduceLE, Int.reduceToNat, Int.reduceNeg, Int.reduceEq, ↓reduceIte, reduceCtorEq, ↓reduceDIte]
theorem dok_3 (bs : List Int) (a1 a2 a3 : Nat) (s1 s2 s3 v : Int) (n : Nat) (q : Bool) (hit : List (List Int)) (ms : List Int) (h1 : callOf pr 61 [.op 1000000 0, I 4] (SRC bs 0 0) = some (I v, SRC bs a1 s1)) (hw : IntKind.i64.wrap (1 + v) = 1 + v) (h2 : callOf pr 97 [.op 1000000 0, I 6] (SRC bs a1 s1) = some (B q, SRC bs a2 s2)) (hn : (if q = true then 6 else 1 + v) = (n : Int))
    (h3 : callOf pr 98 [.op 1000000 0, I n] (SRC bs a2 s2) = FA 1409 1408 bs a3 s3 hit ms) : callOf pr 69 [.op 1000000 0] (SRC bs 0 0) = FA 705 704 bs a3 s3 hit ms := by
  cases q with
  | true =>
    rw [if_pos rfl] at hn
    rw [← hn] at h3
    rw [call_eq pr 69 _ _ Try.f69 fn_69 _ rfl _ ann_69 rfl]
    simp -implicitDefEqProofs only [h1, hw, h2, h3, go_sem, Nat.reduceAdd, Nat.reduceSub, Nat.reduceMul, Nat.reduceMod, Nat.reduceLT, Nat.reduceLeDiff, Nat.reduceEqDiff, Nat.reduceBEq, Nat.reduceDiv, Int.reduceLT, Int.reduceLE, Int.reduceToNat, Int.reduceNeg, Int.reduceEq, ↓reduceIte, reduceCtorEq, ↓reduceDIte]
  | false =>
    rw [if_neg (by simp)] at hn
    rw [← hn] at h3
    rw [call_eq pr 69 _ _ Try.f69 fn_69 _ rfl _ ann_69 rfl]
    simp -implicitDefEqProofs only [h1, hw, h2, h3, go_sem, Nat.reduceAdd, Nat.reduceSub, Nat.reduceMul, Nat.reduceMod, Nat.reduceLT, Nat.reduceLeDiff, Nat.reduceEqDiff, Nat.reduceBEq, Nat.reduceDiv, Int.reduceLT, Int.reduceLE, Int.reduceToNat, Int.reduceNeg, Int.reduceEq, ↓reduceIte, reduceCtorEq, ↓reduceDIte]
theorem dok_4 (bs : List Int) (a1 a2 a3 : Nat) (s1 s2 s3 v : Int) (n : Nat) (q : Bool) (hit : List (List Int)) (ms : List Int) (h1 : callOf pr 61 [.op 1000000 0, I 4] (SRC bs 0 0) = some (I v, SRC bs a1 s1)) (hw : IntKind.i64.wrap (1 + v) = 1 + v) (h2 : callOf pr 97 [.op 1000000 0, I 6] (SRC bs a1 s1) = some (B q, SRC bs a2 s2)) (hn : (if q = true then 6 else 1 + v) = (n : Int))
    (h3 : callOf pr 98 [.op 1000000 0, I n] (SRC bs a2 s2) = FA 2625 2624 bs a3 s3 hit ms) : callOf pr 69 [.op 1000000 0] (SRC bs 0 0) = FA 705 704 bs a3 s3 hit ms := by
  cases q with
  | true =>
    rw [if_pos rfl] at hn
    rw [← hn] at h3
    rw [call_eq pr 69 _ _ Try.f69 fn_69 _ rfl _ ann_69 rfl]
    simp -implicitDefEqProofs only [h1, hw, h2, h3, go_sem, Nat.reduceAdd, Nat.reduceSub, Nat.reduceMul, Nat.reduceMod, Nat.reduceLT, Nat.reduceLeDiff, Nat.reduceEqDiff, Nat.reduceBEq, Nat.reduceDiv, Int.reduceLT, Int.reduceLE, Int.reduceToNat, Int.reduceNeg, Int.reduceEq, ↓reduceIte, reduceCtorEq, ↓reduceDIte]
  | false =>
    rw [if_neg (by simp)] at hn
    rw [← hn] at h3
    rw [call_eq pr 69 _ _ Try.f69 fn_69 _ rfl _ ann_69 rfl]
    simp -implicitDefEqProofs only [h1, hw, h2, h3, go_sem, Nat.reduceAdd, Nat.reduceSub, Nat.reduceMul, Nat.reduceMod, Nat.reduceLT, Nat.reduceLeDiff, Nat.reduceEqDiff, Nat.reduceBEq, Nat.reduceDiv, Int.reduceLT, Int.reduceLE, Int.reduceToNat, Int.reduceNeg, Int.reduceEq, ↓reduceIte, reduceCtorEq, ↓reduceDIte]
theorem dok_5 (bs : List Int) (a1 a2 a3 : Nat) (s1 s2 s3 v : Int) (n : Nat) (q : Bool) (hit : List (List Int)) (ms : List Int) (h1 : callOf pr 61 [.op 1000000 0, I 4] (SRC bs 0 0) = some (I v, SRC bs a1 s1)) (hw : IntKind.i64.wrap (1 + v) = 1 + v) (h2 : callOf pr 97 [.op 1000000 0, I 6] (SRC bs a1 s1) = some (B q, SRC bs a2 s2)) (hn : (if q = true then 6 else 1 + v) = (n : Int))
    (h3 : callOf pr 98 [.op 1000000 0, I n] (SRC bs a2 s2) = FB 2048 2049 bs a3 s3 hit ms) : callOf pr 69 [.op 1000000 0] (SRC bs 0 0) = FB 704 705 bs a3 s3 hit ms := by
  cases q with
  | true =>
    rw [if_pos rfl] at hn
    rw [← hn] at h3
    rw [call_eq pr 69 _ _ Try.f69 fn_69 _ rfl _ ann_69 rfl]
    simp -implicitDefEqProofs only [h1, hw, h2, h3, go_sem, Nat.reduceAdd, Nat.reduceSub, Nat.reduceMul, Nat.reduceMod, Nat.reduceLT, Nat.reduceLeDiff, Nat.reduceEqDiff, Nat.reduceBEq, Nat.reduceDiv, Int.reduceLT, Int.reduceLE, Int.reduceToNat, Int.reduceNeg, Int.reduceEq, ↓reduceIte, reduceCtorEq, ↓reduceDIte]
  | false =>
    rw [if_neg (by simp)] at hn
    rw [← hn] at h3
    rw [call_eq pr 69 _ _ Try.f69 fn_69 _ rfl _ ann_69 rfl]
    simp -implicitDefEqProofs only [h1, hw, h2, h3, go_sem, Nat.reduceAdd, Nat.reduceSub, Nat.reduceMul, Nat.reduceMod, Nat.reduceLT, Nat.reduceLeDiff, Nat.reduceEqDiff, Nat.reduceBEq, Nat.reduceDiv, Int.reduceLT, Int.reduceLE, Int.reduceToNat, Int.reduceNeg, Int.reduceEq, ↓reduceIte, reduceCtorEq, ↓reduceDIte]
theorem dok_6 (bs : List Int) (a1 a2 a3 : Nat) (s1 s2 s3 v : Int) (n : Nat) (q : Bool) (hit : List (List Int)) (ms : List Int) (h1 : callOf pr 61 [.op 1000000 0, I 4] (SRC bs 0 0) = some (I v, SRC bs a1 s1)) (hw : IntKind.i64.wrap (1 + v) = 1 + v) (h2 : callOf pr 97 [.op 1000000 0, I 6] (SRC bs a1 s1) = some (B q, SRC bs a2 s2)) (hn : (if q = true then 6 else 1 + v) = (n : Int))
    (h3 : callOf pr 98 [.op 1000000 0, I n] (SRC bs a2 s2) = FB 2496 2497 bs a3 s3 hit ms) : callOf pr 69 [.op 1000000 0] (SRC bs 0 0) = FB 704 705 bs a3 s3 hit ms := by
  cases q with
  | true =>
    rw [if_pos rfl] at hn
    rw [← hn] at h3
    rw [call_eq pr 69 _ _ Try.f69 fn_69 _ rfl _ ann_69 rfl]
    simp -implicitDefEqProofs only [h1, hw, h2, h3, go_sem, Nat.reduceAdd, Nat.reduceSub, Nat.reduceMul, Nat.reduceMod, Nat.reduceLT, Nat.reduceLeDiff, Nat.reduceEqDiff, Nat.reduceBEq, Nat.reduceDiv, Int.reduceLT, Int.reduceLE, Int.reduceToNat, Int.reduceNeg, Int.reduceEq, ↓reduceIte, reduceCtorEq, ↓reduceDIte]
  | false =>
    rw [if_neg (by simp)] at hn
    rw [← hn] at h3
    rw [call_eq pr 69 _ _ Try.f69 fn_69 _ rfl _ ann_69 rfl]
    simp -implicitDefEqProofs only [h1, hw, h2, h3, go_sem, Nat.reduceAdd, Nat.reduceSub, Nat.reduceMul, Nat.reduceMod, Nat.reduceLT, Nat.reduceLeDiff, Nat.reduceEqDiff, Nat.reduceBEq, Nat.reduceDiv, Int.reduceLT, Int.reduceLE, Int.reduceToNat, Int.reduceNeg, Int.reduceEq, ↓reduceIte, reduceCtorEq, ↓reduceDIte]
theorem dok_7 (bs : List Int) (a1 a2 a3 : Nat) (s1 s2 s3 v : Int) (n : Nat) (q : Bool) (hit : List (List Int)) (ms : List Int) (h1 : callOf pr 61 [.op 1000000 0, I 4] (SRC bs 0 0) = some (I v, SRC bs a1 s1)) (hw : IntKind.i64.wrap (1 + v) = 1 + v) (h2 : callOf pr 97 [.op 1000000 0, I 6] (SRC bs a1 s1) = some (B q, SRC bs a2 s2)) (hn : (if q = true then 6 else 1 + v) = (n : Int))
    (h3 : callOf pr 98 [.op 1000000 0, I n] (SRC bs a2 s2) = FB 2625 3200 bs a3 s3 hit ms) : callOf pr 69 [.op 1000000 0] (SRC bs 0 0) = FB 704 705 bs a3 s3 hit ms := by
  cases q with
  | true =>
    rw [if_pos rfl] at hn
    rw [← hn] at h3
    rw [call_eq pr 69 _ _ Try.f69 fn_69 _ rfl _ ann_69 rfl]
    simp -implicitDefEqProofs only [h1, hw, h2, h3, go_sem, Nat.reduceAdd, Nat.reduceSub, Nat.reduceMul, Nat.reduceMod, Nat.reduceLT, Nat.reduceLeDiff, Nat.reduceEqDiff, Nat.reduceBEq, Nat.reduceDiv, Int.reduceLT, Int.reduceLE, Int.reduceToNat, Int.reduceNeg, Int.reduceEq, ↓reduceIte, reduceCtorEq, ↓reduceDIte]
  | false =>
    rw [if_neg (by simp)] at hn
    rw [← hn] at h3
    rw [call_eq pr 69 _ _ Try.f69 fn_69 _ rfl _ ann_69 rfl]
    simp -implicitDefEqProofs only [h1, hw, h2, h3, go_sem, Nat.reduceAdd, Nat.reduceSub, Nat.reduceMul, Nat.reduceMod, Nat.reduceLT, Nat.reduceLeDiff, Nat.reduceEqDiff, Nat.reduceBEq, Nat.reduceDiv, Int.reduceLT, Int.reduceLE, Int.reduceToNat, Int.reduceNeg, Int.reduceEq, ↓reduceIte, reduceCtorEq, ↓reduceDIte]
theorem call_dok (bs : List Int) (hb : okBy bs) : ∃ (hit : List (List Int)) (ms : List Int) (at' : Nat) (sd' : Int), validP hit ms = true ∧ (callOf pr 69 [.op 1000000 0] (SRC bs 0 0) = FA 705 704 bs at' sd' hit ms ∨ callOf pr 69 [.op 1000000 0] (SRC bs 0 0) = FB 704 705 bs at' sd' hit ms) := by
  obtain ⟨v, a1, s1, hv, ha1, h1⟩ := call_pick bs hb 0 (by omega) 0 4 (by omega)
  have hw : IntKind.i64.wrap (1 + v) = 1 + v := by rw [wrap_i] <;> omega
  obtain ⟨q, a2, s2, ha2, h2⟩ := call_one bs hb a1 (by omega) s1 6 (by omega)
  obtain ⟨n, hn⟩ : ∃ n : Nat, (if q = true then 6 else 1 + v) = (n : Int) := ⟨(if q = true then 6 else 1 + v).toNat, by cases q <;> simp <;> omega⟩
  have hnr : 1 ≤ n ∧ n ≤ 6 := by cases q <;> simp at hn <;> omega
  obtain ⟨hit, ms, a3, s3, hval, _, _, h3⟩ := call_dof bs hb a2 (by omega) s2 n hnr
  refine ⟨hit, ms, a3, s3, hval, ?_⟩
  rcases h3 with h3 | h3 | h3 | h3 | h3 | h3 | h3
  · exact .inl (dok_1 bs a1 a2 a3 s1 s2 s3 v n q hit ms h1 hw h2 hn h3)
  · exact .inl (dok_2 bs a1 a2 a3 s1 s2 s3 v n q hit ms h1 hw h2 hn h3)
  · exact .inl (dok_3 bs a1 a2 a3 s1 s2 s3 v n q hit ms h1 hw h2 hn h3)
  · exact .inl (dok_4 bs a1 a2 a3 s1 s2 s3 v n q hit ms h1 hw h2 hn h3)
  · exact .inr (dok_5 bs a1 a2 a3 s1 s2 s3 v n q hit ms h1 hw h2 hn h3)
  · exact .inr (dok_6 bs a1 a2 a3 s1 s2 s3 v n q hit ms h1 hw h2 hn h3)
  · exact .inr (dok_7 bs a1 a2 a3 s1 s2 s3 v n q hit ms h1 hw h2 hn h3)
theorem pol_a (bs : List Int) (a3 : Nat) (s3 : Int) (hit : List (List Int)) (ms : List Int) (h : callOf pr 69 [.op 1000000 0] (SRC bs 0 0) = FA 705 704 bs a3 s3 hit ms) : callOf pr 35 [BY bs] [] = some (.agg [.os (.t 449), .os (.t 448)], [(448, .arr true false (.int .i64) ms), (449, .arr true true (.slice (.int .i64)) hit)]) := by
  have hf := call_from bs
  have h : callOf pr 69 [.op 1000000 0] [(1000000, .box [BY bs, I 0, .d (.int .u64) 0])] = FA 705 704 bs a3 s3 hit ms := h
  rw [call_eq pr 35 _ _ Try.f35 fn_35 _ rfl _ ann_35 rfl]
  simp -implicitDefEqProofs only [hf, h, go_sem, Nat.reduceAdd, Nat.reduceSub, Nat.reduceMul, Nat.reduceMod, Nat.reduceLT, Nat.reduceLeDiff, Nat.reduceEqDiff, Nat.reduceBEq, Nat.reduceDiv, Int.reduceLT, Int.reduceLE, Int.reduceToNat, Int.reduceNeg, Int.reduceEq, ↓reduceIte, reduceCtorEq, ↓reduceDIte]
theorem pol_b (bs : List Int) (a3 : Nat) (s3 : Int) (hit : List (List Int)) (ms : List Int) (h : callOf pr 69 [.op 1000000 0] (SRC bs 0 0) = FB 704 705 bs a3 s3 hit ms) : callOf pr 35 [BY bs] [] = some (.agg [.os (.t 448), .os (.t 449)], [(448, .arr true true (.slice (.int .i64)) hit), (449, .arr true false (.int .i64) ms)]) := by
  have hf := call_from bs
  have h : callOf pr 69 [.op 1000000 0] [(1000000, .box [BY bs, I 0, .d (.int .u64) 0])] = FB 704 705 bs a3 s3 hit ms := h
  rw [call_eq pr 35 _ _ Try.f35 fn_35 _ rfl _ ann_35 rfl]
  simp -implicitDefEqProofs only [hf, h, go_sem, Nat.reduceAdd, Nat.reduceSub, Nat.reduceMul, Nat.reduceMod, Nat.reduceLT, Nat.reduceLeDiff, Nat.reduceEqDiff, Nat.reduceBEq, Nat.reduceDiv, Int.reduceLT, Int.reduceLE, Int.reduceToNat, Int.reduceNeg, Int.reduceEq, ↓reduceIte, reduceCtorEq, ↓reduceDIte]
theorem call_pol (bs : List Int) (hb : okBy bs) : ∃ (hit : List (List Int)) (ms : List Int), validP hit ms = true ∧ (callOf pr 35 [BY bs] [] = some (.agg [.os (.t 449), .os (.t 448)], [(448, .arr true false (.int .i64) ms), (449, .arr true true (.slice (.int .i64)) hit)]) ∨ callOf pr 35 [BY bs] [] = some (.agg [.os (.t 448), .os (.t 449)], [(448, .arr true true (.slice (.int .i64)) hit), (449, .arr true false (.int .i64) ms)])) := by
  obtain ⟨hit, ms, a3, s3, hv, h | h⟩ := call_dok bs hb
  · exact ⟨hit, ms, hv, .inl (pol_a bs a3 s3 hit ms h)⟩
  · exact ⟨hit, ms, hv, .inr (pol_b bs a3 s3 hit ms h)⟩
theorem loop_74 (p : Int → Bool) (g : Nat) (cs : List AV) (hC : Caps cs) (hg : pr.byref g = []) : ∀ (rest kept : List Int) (junk : List Int), junk ≠ [] → (kept ++ junk ++ rest).length < 1000000000000000000 → (∀ x ∈ rest, callOf pr g (I x :: cs) [] = some (B (p x), [])) →
    ∃ junk' : List Int, kept.length + junk.length + rest.length = (kept ++ rest.filter fun x => !p x).length + junk'.length ∧ loopOf pr 74 0 ⟨[(0, .os (.t 1000000)), (1, .fn g cs), (5, I kept.length), (6, I ((kept.length + junk.length : Nat) : Int))], [(1000000, .arr false false (.int .i64) (kept ++ junk ++ rest))]⟩ = some (.exit 0, ⟨[(0, .os (.t 1000000)), (1, .fn g cs), (5, I ((kept ++ rest.filter fun x => !p x).length : Int)), (6, I ((kept.length + junk.length + rest.length : Nat) : Int))], [(1000000, .arr false false (.int .i64) ((kept ++ rest.filter fun x => !p x) ++ junk'))]⟩)
  | [], kept, junk, hj, hb, hp => by
    refine ⟨junk, by simp, ?_⟩
    have hl : (kept ++ junk ++ []).length = kept.length + junk.length := by simp
    rw [loop_eq pr 74 0 _ Try.f74 fn_74 _ rfl _ ann_74 _ rfl]
    simp -implicitDefEqProofs only [Int.lt_irrefl, hl, hC.args, hC.own, hC.ow, hC.arg, hC.mapR, hC.leads, hg, go_sem, Nat.reduceAdd, Nat.reduceSub, Nat.reduceMul, Nat.reduceMod, Nat.reduceLT, Nat.reduceLeDiff, Nat.reduceEqDiff, Nat.reduceBEq, Nat.reduceDiv, Int.reduceLT, Int.reduceLE, Int.reduceToNat, Int.reduceNeg, Int.reduceEq, ↓reduceIte, reduceCtorEq, ↓reduceDIte]
    simp
  | v :: rest, kept, junk, hj, hb, hp => by
    have hl : (kept ++ junk ++ v :: rest).length = kept.length + junk.length + (rest.length + 1) := by simp; omega
    rw [hl] at hb
    have hlt : kept.length + junk.length < (kept ++ junk ++ v :: rest).length := by rw [hl]; omega
    have hv : (kept ++ junk ++ v :: rest).getD (kept.length + junk.length) 0 = v := by rw [← List.length_append]; simp
    have hpv := hp v (by simp)
    have hw : IntKind.i64.wrap (((kept.length + junk.length : Nat) : Int) + 1) = ((kept.length + junk.length + 1 : Nat) : Int) := by rw [wrap_i] <;> omega
    rw [loop_eq pr 74 0 _ Try.f74 fn_74 _ rfl _ ann_74 _ rfl]
    cases hq : p v with
    | true =>
      rw [hq] at hpv
      have h1 : (v :: rest).filter (fun x => !p x) = rest.filter fun x => !p x := by simp [hq]
      obtain ⟨junk', h2, h3⟩ := loop_74 p g cs hC hg rest kept (junk ++ [v]) (by simp) (by simp; omega) (fun x hx => hp x (by simp [hx]))
      rw [h1]
      refine ⟨junk', by rw [← h2]; simp; omega, ?_⟩
      have e1 : kept ++ (junk ++ [v]) ++ rest = kept ++ junk ++ v :: rest := by simp
      have e2 : kept.length + (junk ++ [v]).length = kept.length + junk.length + 1 := by simp; omega
      have e3 : kept.length + junk.length + 1 + rest.length = kept.length + junk.length + (v :: rest).length := by simp; omega
      rw [e1, e2, e3] at h3
      simp -implicitDefEqProofs only [lt_cast hlt, zero_le_cast, Int.toNat_natCast, hv, hw, hpv, hC.args, hC.own, hC.ow, hC.arg, hC.mapR, hC.leads, hg, go_sem, Nat.reduceAdd, Nat.reduceSub, Nat.reduceMul, Nat.reduceMod, Nat.reduceLT, Nat.reduceLeDiff, Nat.reduceEqDiff, Nat.reduceBEq, Nat.reduceDiv, Int.reduceLT, Int.reduceLE, Int.reduceToNat, Int.reduceNeg, Int.reduceEq, ↓reduceIte, reduceCtorEq, ↓reduceDIte]
      exact h3
    | false =>
      rw [hq] at hpv
      have h1 : (v :: rest).filter (fun x => !p x) = v :: rest.filter fun x => !p x := by simp [hq]
      obtain ⟨j0, junk0, hje⟩ := List.exists_cons_of_ne_nil hj
      have hjl : junk.length = junk0.length + 1 := by rw [hje]; rfl
      obtain ⟨junk', h2, h3⟩ := loop_74 p g cs hC hg rest (kept ++ [v]) (junk0 ++ [v]) (by simp) (by simp; omega) (fun x hx => hp x (by simp [hx]))
      rw [h1]
      have e0 : (kept ++ [v]) ++ rest.filter (fun x => !p x) = kept ++ v :: rest.filter fun x => !p x := by simp
      rw [e0] at h2 h3
      refine ⟨junk', by rw [← h2]; simp; omega, ?_⟩
      have e1 : (kept ++ [v]) ++ (junk0 ++ [v]) ++ rest = kept ++ v :: junk0 ++ v :: rest := by simp
      have e2 : (kept ++ [v]).length + (junk0 ++ [v]).length = kept.length + junk.length + 1 := by simp; omega
      have e3 : kept.length + junk.length + 1 + rest.length = kept.length + junk.length + (v :: rest).length := by simp; omega
      have e4 : (kept ++ [v]).length = kept.length + 1 := by simp
      rw [e1, e2, e3, e4] at h3
      have hlt2 : kept.length < (kept ++ junk ++ v :: rest).length := by rw [hl]; omega
      have hset : (kept ++ junk ++ v :: rest).set kept.length v = kept ++ v :: junk0 ++ v :: rest := by rw [hje]; simp
      have hw2 : IntKind.i64.wrap ((kept.length : Int) + 1) = ((kept.length + 1 : Nat) : Int) := by rw [wrap_i] <;> omega
      simp -implicitDefEqProofs only [lt_cast hlt, lt_cast hlt2, zero_le_cast, Int.toNat_natCast, hv, hw, hw2, hpv, hset, hC.args, hC.own, hC.ow, hC.arg, hC.mapR, hC.leads, hg, go_sem, Nat.reduceAdd, Nat.reduceSub, Nat.reduceMul, Nat.reduceMod, Nat.reduceLT, Nat.reduceLeDiff, Nat.reduceEqDiff, Nat.reduceBEq, Nat.reduceDiv, Int.reduceLT, Int.reduceLE, Int.reduceToNat, Int.reduceNeg, Int.reduceEq, ↓reduceIte, reduceCtorEq, ↓reduceDIte]
      exact h3
theorem copyIn_tail {α : Type} (xs ys : List α) (z : α) : copyIn (xs ++ ys) (List.replicate ((xs ++ ys).length - xs.length) z) xs.length ((xs ++ ys).length - xs.length) = xs ++ List.replicate ys.length z := by
  have h : (xs ++ ys).length - xs.length = ys.length := by simp
  unfold copyIn
  rw [h, List.take_left, List.take_of_length_le (by simp)]
  have : (xs ++ ys).drop (xs.length + (List.replicate ys.length z).length) = [] := by
    rw [List.drop_eq_nil_iff]; simp
  rw [this, List.append_nil]
theorem call_74 (p : Int → Bool) (g : Nat) (cs : List AV) (hC : Caps cs) (hg : pr.byref g = []) (ys : List Int) (hb : ys.length < 1000000000000000000) (hp : ∀ x ∈ ys, callOf pr g (I x :: cs) [] = some (B (p x), [])) :
    callOf pr 74 [.os (.t 1000000), .fn g cs] [(1000000, .arr false false (.int .i64) ys)] = if ys.any p = true then some (.sub (.t 1000000) 0 (ys.filter fun x => !p x).length, [(1000000, .arr false false (.int .i64) ((ys.filter fun x => !p x) ++ List.replicate (ys.length - (ys.filter fun x => !p x).length) 0))]) else some (.os (.t 1000000), [(1000000, .arr false false (.int .i64) ys)]) := by
  have h79 := call_105 ys hb p g cs hC hg hp
  rw [call_eq pr 74 _ _ Try.f74 fn_74 _ rfl _ ann_74 rfl]
  cases hf : ys.findIdx? p with
  | none =>
    rw [hf] at h79
    have hany : ys.any p = false := by
      rw [List.findIdx?_eq_none_iff] at hf
      simpa using hf
    simp -implicitDefEqProofs only [h79, hany, hC.args, hC.own, hC.ow, hC.arg, hC.mapR, hC.leads, hg, go_sem, Nat.reduceAdd, Nat.reduceSub, Nat.reduceMul, Nat.reduceMod, Nat.reduceLT, Nat.reduceLeDiff, Nat.reduceEqDiff, Nat.reduceBEq, Nat.reduceDiv, Int.reduceLT, Int.reduceLE, Int.reduceToNat, Int.reduceNeg, Int.reduceEq, ↓reduceIte, reduceCtorEq, ↓reduceDIte]
  | some i =>
    rw [hf] at h79
    rw [List.findIdx?_eq_some_iff_getElem] at hf
    obtain ⟨h1, h2, h3⟩ := hf
    have hany : ys.any p = true := List.any_eq_true.2 ⟨_, List.getElem_mem h1, h2⟩
    have hsplit : ys = ys.take i ++ [ys[i]] ++ ys.drop (i + 1) := by
      rw [List.append_assoc, List.singleton_append, ← List.drop_eq_getElem_cons h1, List.take_append_drop]
    have hpre : (ys.take i).filter (fun x => !p x) = ys.take i := by
      rw [List.filter_eq_self]
      intro x hx
      obtain ⟨j, hj, rfl⟩ := List.getElem_of_mem hx
      have hj' : j < i := by simp at hj; omega
      have := h3 j hj'
      simp only [List.getElem_take]
      simpa using this
    have hfil : ys.filter (fun x => !p x) = ys.take i ++ (ys.drop (i + 1)).filter fun x => !p x := by
      conv => lhs; rw [hsplit]
      rw [List.filter_append, List.filter_append, hpre]
      simp [h2]
    obtain ⟨junk', h4, h5⟩ := loop_74 p g cs hC hg (ys.drop (i + 1)) (ys.take i) [ys[i]] (by simp) (by rw [← hsplit]; exact hb) (fun x hx => hp x (List.mem_of_mem_drop hx))
    rw [← hsplit, ← hfil] at h5
    have e1 : (ys.take i).length = i := by simp; omega
    have e2 : (ys.take i).length + [ys[i]].length + (ys.drop (i + 1)).length = ys.length := by simp; omega
    rw [e2] at h4 h5
    rw [e1] at h5
    simp only [List.length_singleton] at h5
    rw [← hfil] at h4
    have hw : IntKind.i64.wrap ((i : Int) + 1) = ((i + 1 : Nat) : Int) := by rw [wrap_i] <;> omega
    have hne : ((i : Int) = -1) = False := fa (by omega)
    have hle : ((ys.filter fun x => !p x).length : Int) ≤ ((ys.filter fun x => !p x) ++ junk').length := by rw [List.length_append]; omega
    have hcp := copyIn_tail (ys.filter fun x => !p x) junk' (0 : Int)
    have hj : junk'.length = ys.length - (ys.filter fun x => !p x).length := by omega
    have hle2 : ((ys.filter fun x => !p x).length : Int) ≤ ((ys.filter fun x => !p x) ++ List.replicate junk'.length (0 : Int)).length := by rw [List.length_append]; omega
    rw [hj] at hle2
    simp -implicitDefEqProofs only [h79, hany, hC.args, hC.own, hC.ow, hC.arg, hC.mapR, hC.leads, hg, hne, hw, h5, zero_le_cast, tr hle, Int.le_refl, Int.toNat_natCast, hcp, tr hle2, Nat.sub_zero, hj, go_sem, Nat.reduceAdd, Nat.reduceSub, Nat.reduceMul, Nat.reduceMod, Nat.reduceLT, Nat.reduceLeDiff, Nat.reduceEqDiff, Nat.reduceBEq, Nat.reduceDiv, Int.reduceLT, Int.reduceLE, Int.reduceToNat, Int.reduceNeg, Int.reduceEq, ↓reduceIte, reduceCtorEq, ↓reduceDIte]

/-- Numbers that differ from those before them. -/
def pushC : Int → List Int → List Int
  | _, [] => []
  | c, e :: r => if e = c then pushC e r else e :: pushC e r
def comp : List Int → List Int
  | [] => []
  | x :: l => x :: pushC x l
theorem pushC_length : ∀ (c : Int) (l : List Int), (pushC c l).length ≤ l.length
  | _, [] => Nat.le_refl _
  | c, e :: r => by
    have := pushC_length e r
    simp only [pushC]
    split <;> simp only [List.length_cons] <;> omega
/-- The second loop: what is kept, what lies between, the last one looked at, the rest. -/
theorem loop_co1 (K M : Nat) : ∀ (rest out mid : List Int) (c : Int), 1 ≤ K → out.length + mid.length + 1 + rest.length = K + M → K + M < 1000000 → K ≤ out.length + mid.length →
    ∃ tl : List Int, tl.length = K + M - (out ++ pushC c rest).length ∧ loopOf pr 106 1 ⟨[(0, .os (.t 1000000)), (3, I out.length), (4, .sub (.t 1000000) K M), (5, I ((out.length + mid.length + 1 - K : Nat) : Int))], [(1000000, .arr false false (.int .i64) (out ++ mid ++ c :: rest))]⟩ = some (.exit 2, ⟨[(0, .os (.t 1000000)), (3, I (out ++ pushC c rest).length), (4, .sub (.t 1000000) K M), (5, I M)], [(1000000, .arr false false (.int .i64) (out ++ pushC c rest ++ tl))]⟩)
  | [], out, mid, c, hK, hl, hb, hle => by
    refine ⟨mid ++ [c], by simp [pushC]; simp at hl; omega, ?_⟩
    have he : out.length + mid.length + 1 - K = M := by simp at hl; omega
    rw [he, loop_eq pr 106 1 _ Try.f106 fn_106 _ rfl _ ann_106 _ rfl]
    simp -implicitDefEqProofs only [Int.lt_irrefl, pushC, List.append_nil, go_sem, Nat.reduceAdd, Nat.reduceSub, Nat.reduceMul, Nat.reduceMod, Nat.reduceLT, Nat.reduceLeDiff, Nat.reduceEqDiff, Nat.reduceBEq, Nat.reduceDiv, Int.reduceLT, Int.reduceLE, Int.reduceToNat, Int.reduceNeg, Int.reduceEq, ↓reduceIte, reduceCtorEq, ↓reduceDIte]
    simp
  | e :: rest, out, mid, c, hK, hl, hb, hle => by
    simp only [List.length_cons] at hl
    have hlt : ((((out.length + mid.length + 1 - K : Nat)) : Int) < (M : Int)) = True := tr (by omega)
    have g0 : (0 ≤ (((out.length + mid.length + 1 - K : Nat)) : Int)) = True := tr (by omega)
    have hw1 : IntKind.i64.wrap (((out.length + mid.length + 1 - K : Nat) : Int) - 1) = ((out.length + mid.length - K : Nat) : Int) := by rw [wrap_i] <;> omega
    have g1 : (0 ≤ ((out.length + mid.length - K : Nat) : Int)) = True := tr (by omega)
    have g2 : (((out.length + mid.length - K : Nat) : Int) < (M : Int)) = True := tr (by omega)
    have i1 : K + (out.length + mid.length + 1 - K) = out.length + mid.length + 1 := by omega
    have i2 : K + (out.length + mid.length - K) = out.length + mid.length := by omega
    have v1 : (out ++ mid ++ c :: e :: rest).getD (K + (out.length + mid.length + 1 - K)) 0 = e := by
      rw [i1, show out ++ mid ++ c :: e :: rest = (out ++ mid ++ [c]) ++ e :: rest from by simp, show out.length + mid.length + 1 = (out ++ mid ++ [c]).length from by simp only [List.length_append, List.length_cons, List.length_nil]]
      exact getD_app _ _ _ _
    have v2 : (out ++ mid ++ c :: e :: rest).getD (K + (out.length + mid.length - K)) 0 = c := by
      rw [i2, show out.length + mid.length = (out ++ mid).length from by simp]
      exact getD_app _ _ _ _
    have q1 : (K + (out.length + mid.length + 1 - K) < (out ++ mid ++ c :: e :: rest).length) = True := tr (by simp; omega)
    have q2 : (K + (out.length + mid.length - K) < (out ++ mid ++ c :: e :: rest).length) = True := tr (by simp; omega)
    have hw2 : IntKind.i64.wrap (((out.length + mid.length + 1 - K : Nat) : Int) + 1) = ((out.length + mid.length + 1 + 1 - K : Nat) : Int) := by rw [wrap_i] <;> omega
    rw [loop_eq pr 106 1 _ Try.f106 fn_106 _ rfl _ ann_106 _ rfl]
    by_cases hec : e = c
    · have hp : pushC c (e :: rest) = pushC e rest := by simp [pushC, hec]
      obtain ⟨tl, h1, h2⟩ := loop_co1 K M rest out (mid ++ [c]) e hK (by simp; omega) hb (by simp; omega)
      have e1 : out ++ (mid ++ [c]) ++ e :: rest = out ++ mid ++ c :: e :: rest := by simp
      have e2 : out.length + (mid ++ [c]).length + 1 - K = out.length + mid.length + 1 + 1 - K := by simp; omega
      rw [e1, e2] at h2
      rw [hp]
      refine ⟨tl, h1, ?_⟩
      simp -implicitDefEqProofs only [hlt, g0, g1, g2, hw1, hw2, Int.toNat_natCast, v1, v2, q1, q2, zero_le_cast, tr hec, go_sem, Nat.reduceAdd, Nat.reduceSub, Nat.reduceMul, Nat.reduceMod, Nat.reduceLT, Nat.reduceLeDiff, Nat.reduceEqDiff, Nat.reduceBEq, Nat.reduceDiv, Int.reduceLT, Int.reduceLE, Int.reduceToNat, Int.reduceNeg, Int.reduceEq, ↓reduceIte, reduceCtorEq, ↓reduceDIte]
      exact h2
    · have hp : pushC c (e :: rest) = e :: pushC e rest := by simp [pushC, hec]
      have hw3 : IntKind.i64.wrap ((out.length : Int) + 1) = ((out.length + 1 : Nat) : Int) := by rw [wrap_i] <;> omega
      have q3 : ((out.length : Int) < ((out ++ mid ++ c :: e :: rest).length : Int)) = True := tr (by simp; omega)
      have q4 : (out.length < (out ++ mid ++ c :: e :: rest).length) = True := tr (by simp; omega)
      obtain ⟨m0, mt, hm⟩ : ∃ m0 mt, mid ++ [c] = m0 :: mt := by cases mid with | nil => exact ⟨c, [], rfl⟩ | cons m0 mt => exact ⟨m0, mt ++ [c], rfl⟩
      have hml : mt.length = mid.length := by
        have := congrArg List.length hm
        simp at this; omega
      have hset : (out ++ mid ++ c :: e :: rest).set out.length e = (out ++ [e]) ++ mt ++ e :: rest := by
        rw [show out ++ mid ++ c :: e :: rest = out ++ ((mid ++ [c]) ++ e :: rest) from by simp, hm]
        simp
      obtain ⟨tl, h1, h2⟩ := loop_co1 K M rest (out ++ [e]) mt e hK (by simp; omega) hb (by simp; omega)
      have e0 : (out ++ [e]) ++ pushC e rest = out ++ e :: pushC e rest := by simp
      have e1 : (out ++ [e]).length = out.length + 1 := by simp
      have e2 : out.length + 1 + mt.length + 1 - K = out.length + mid.length + 1 + 1 - K := by omega
      rw [e0] at h1 h2
      rw [e1, e2] at h2
      rw [hp]
      refine ⟨tl, h1, ?_⟩
      simp -implicitDefEqProofs only [hlt, g0, g1, g2, hw1, hw2, Int.toNat_natCast, v1, v2, q1, q2, zero_le_cast, fa hec, hw3, q3, q4, hset, go_sem, Nat.reduceAdd, Nat.reduceSub, Nat.reduceMul, Nat.reduceMod, Nat.reduceLT, Nat.reduceLeDiff, Nat.reduceEqDiff, Nat.reduceBEq, Nat.reduceDiv, Int.reduceLT, Int.reduceLE, Int.reduceToNat, Int.reduceNeg, Int.reduceEq, ↓reduceIte, reduceCtorEq, ↓reduceDIte]
      exact h2
/-- No two neighbours are the same. -/
def incr : Int → List Int → Bool
  | _, [] => true
  | c, e :: r => decide (e ≠ c) && incr e r
theorem pushC_incr : ∀ {c : Int} {l : List Int}, incr c l = true → pushC c l = l
  | _, [], _ => rfl
  | c, e :: r, h => by
    simp only [incr, Bool.and_eq_true, decide_eq_true_eq] at h
    simp only [pushC, if_neg h.1, pushC_incr h.2]
theorem pushC_less : ∀ {c : Int} {l : List Int}, incr c l = false → (pushC c l).length < l.length
  | _, [], h => by simp [incr] at h
  | c, e :: r, h => by
    simp only [pushC]
    by_cases hec : e = c
    · rw [if_pos hec]
      have := pushC_length e r
      simp only [List.length_cons]; omega
    · rw [if_neg hec]
      have h' : incr e r = false := by simpa [incr, hec] using h
      have := pushC_less h'
      simp only [List.length_cons]; omega
/-- The first loop: it looks for the first two that are the same. -/
theorem loop_co0 : ∀ (suf pre : List Int) (a : Int), pre.length + 1 + suf.length < 1000000 →
    (incr a suf = true → loopOf pr 106 0 ⟨[(0, .os (.t 1000000)), (3, I ((pre.length + 1 : Nat) : Int))], [(1000000, .arr false false (.int .i64) (pre ++ a :: suf))]⟩ = some (.exit 0, ⟨[(0, .os (.t 1000000)), (3, I ((pre.length + 1 + suf.length : Nat) : Int))], [(1000000, .arr false false (.int .i64) (pre ++ a :: suf))]⟩)) ∧
    (incr a suf = false → loopOf pr 106 0 ⟨[(0, .os (.t 1000000)), (3, I ((pre.length + 1 : Nat) : Int))], [(1000000, .arr false false (.int .i64) (pre ++ a :: suf))]⟩ = some (.ret, ⟨[(2, .sub (.t 1000000) 0 (pre ++ a :: pushC a suf).length)], [(1000000, .arr false false (.int .i64) ((pre ++ a :: pushC a suf) ++ List.replicate (pre.length + 1 + suf.length - (pre ++ a :: pushC a suf).length) 0))]⟩))
  | [], pre, a, hb => by
    refine ⟨fun _ => ?_, fun h => by simp [incr] at h⟩
    rw [loop_eq pr 106 0 _ Try.f106 fn_106 _ rfl _ ann_106 _ rfl]
    have hl : ((((pre.length + 1 : Nat)) : Int) < ((pre ++ [a]).length : Int)) = False := fa (by simp)
    simp -implicitDefEqProofs only [hl, List.length_nil, Nat.add_zero, go_sem, Nat.reduceAdd, Nat.reduceSub, Nat.reduceMul, Nat.reduceMod, Nat.reduceLT, Nat.reduceLeDiff, Nat.reduceEqDiff, Nat.reduceBEq, Nat.reduceDiv, Int.reduceLT, Int.reduceLE, Int.reduceToNat, Int.reduceNeg, Int.reduceEq, ↓reduceIte, reduceCtorEq, ↓reduceDIte]
  | b :: suf, pre, a, hb => by
    simp only [List.length_cons] at hb ⊢
    have hlt : ((((pre.length + 1 : Nat)) : Int) < ((pre ++ a :: b :: suf).length : Int)) = True := tr (by simp; omega)
    have g0 : (0 ≤ (((pre.length + 1 : Nat)) : Int)) = True := tr (by omega)
    have g1 : (0 ≤ ((pre.length : Nat) : Int)) = True := tr (by omega)
    have g2 : (((pre.length : Nat) : Int) < ((pre ++ a :: b :: suf).length : Int)) = True := tr (by simp; omega)
    have hw1 : IntKind.i64.wrap (((pre.length + 1 : Nat) : Int) - 1) = ((pre.length : Nat) : Int) := by rw [wrap_i] <;> omega
    have hw2 : IntKind.i64.wrap (((pre.length + 1 : Nat) : Int) + 1) = ((pre.length + 1 + 1 : Nat) : Int) := by rw [wrap_i] <;> omega
    have v1 : (pre ++ a :: b :: suf).getD (pre.length + 1) 0 = b := by
      rw [show pre ++ a :: b :: suf = (pre ++ [a]) ++ b :: suf from by simp, show pre.length + 1 = (pre ++ [a]).length from by simp]
      exact getD_app _ _ _ _
    have v2 : (pre ++ a :: b :: suf).getD pre.length 0 = a := getD_app _ _ _ _
    have q1 : (pre.length + 1 < (pre ++ a :: b :: suf).length) = True := tr (by simp)
    have q2 : (pre.length < (pre ++ a :: b :: suf).length) = True := tr (by simp)
    by_cases hba : b = a
    · refine ⟨fun h => by simp [incr, hba] at h, fun _ => ?_⟩
      have hp : pushC a (b :: suf) = pushC b suf := by simp [pushC, hba]
      have hlen : (pre ++ a :: b :: suf).length = pre.length + 1 + (suf.length + 1) := by simp; omega
      obtain ⟨tl, t1, t2⟩ := loop_co1 (pre.length + 1) (suf.length + 1) suf (pre ++ [a]) [] b (by omega) (by simp; omega) (by omega) (by simp)
      simp only [List.append_nil, List.length_nil, Nat.add_zero] at t2
      have e1 : (pre ++ [a]) ++ b :: suf = pre ++ a :: b :: suf := by simp
      have e2 : (pre ++ [a]).length = pre.length + 1 := by simp
      have e3 : (pre ++ [a]) ++ pushC b suf = pre ++ a :: pushC b suf := by simp
      have e4 : pre.length + 1 + 1 - (pre.length + 1) = 1 := by omega
      rw [e3] at t1 t2
      rw [e1, e2, e4] at t2
      have hle := pushC_length b suf
      have hcl : (pre ++ a :: pushC b suf).length ≤ pre.length + 1 + suf.length := by simp; omega
      rw [hp]
      generalize hcc : pre ++ a :: pushC b suf = cc at t1 t2 hcl ⊢
      have t2 : loopOf pr 106 1 ⟨[(0, .os (.t 1000000)), (3, I ((pre.length + 1 : Nat) : Int)), (4, .sub (.t 1000000) (pre.length + 1) (suf.length + 1)), (5, I 1)], [(1000000, .arr false false (.int .i64) (pre ++ a :: b :: suf))]⟩ = _ := t2
      have h5 : (pre ++ a :: b :: suf).length - (pre.length + 1) = suf.length + 1 := by rw [hlen]; omega
      have h6 : ((((pre.length + 1 : Nat)) : Int) ≤ ((pre ++ a :: b :: suf).length : Int)) = True := tr (by rw [hlen]; omega)
      have h7 : ((cc.length : Int) ≤ ((cc ++ tl).length : Int)) = True := tr (by rw [List.length_append]; omega)
      have h8 := copyIn_tail cc tl (0 : Int)
      have h9 : tl.length = pre.length + 1 + (suf.length + 1) - cc.length := t1
      rw [loop_eq pr 106 0 _ Try.f106 fn_106 _ rfl _ ann_106 _ rfl]
      have h10 : ((cc.length : Int) ≤ ((cc ++ List.replicate (pre.length + 1 + (suf.length + 1) - cc.length) (0 : Int)).length : Int)) = True := tr (by rw [List.length_append]; omega)
      simp -implicitDefEqProofs only [hlt, g0, g1, g2, hw1, hw2, Int.toNat_natCast, v1, v2, q1, q2, zero_le_cast, tr hba, h5, h6, t2, h7, h8, h9, h10, Nat.sub_zero, Int.le_refl, go_sem, Nat.reduceAdd, Nat.reduceSub, Nat.reduceMul, Nat.reduceMod, Nat.reduceLT, Nat.reduceLeDiff, Nat.reduceEqDiff, Nat.reduceBEq, Nat.reduceDiv, Int.reduceLT, Int.reduceLE, Int.reduceToNat, Int.reduceNeg, Int.reduceEq, ↓reduceIte, reduceCtorEq, ↓reduceDIte]
    · have e1 : (pre ++ [a]) ++ b :: suf = pre ++ a :: b :: suf := by simp
      have e2 : (pre ++ [a]).length = pre.length + 1 := by simp
      have e3 : pre.length + 1 + 1 + suf.length = pre.length + 1 + (suf.length + 1) := by omega
      have hp : pushC a (b :: suf) = b :: pushC b suf := by simp [pushC, hba]
      have e4 : (pre ++ [a]) ++ b :: pushC b suf = pre ++ a :: b :: pushC b suf := by simp
      have hi : incr a (b :: suf) = incr b suf := by simp [incr, hba]
      obtain ⟨i1, i2⟩ := loop_co0 suf (pre ++ [a]) b (by simp; omega)
      rw [e1, e2, e3] at i1 i2
      rw [e4] at i2
      rw [hi, hp]
      refine ⟨fun h => ?_, fun h => ?_⟩
      · have ih := i1 h
        rw [loop_eq pr 106 0 _ Try.f106 fn_106 _ rfl _ ann_106 _ rfl]
        simp -implicitDefEqProofs only [hlt, g0, g1, g2, hw1, hw2, Int.toNat_natCast, v1, v2, q1, q2, zero_le_cast, fa hba, go_sem, Nat.reduceAdd, Nat.reduceSub, Nat.reduceMul, Nat.reduceMod, Nat.reduceLT, Nat.reduceLeDiff, Nat.reduceEqDiff, Nat.reduceBEq, Nat.reduceDiv, Int.reduceLT, Int.reduceLE, Int.reduceToNat, Int.reduceNeg, Int.reduceEq, ↓reduceIte, reduceCtorEq, ↓reduceDIte]
        exact ih
      · have ih := i2 h
        rw [loop_eq pr 106 0 _ Try.f106 fn_106 _ rfl _ ann_106 _ rfl]
        simp -implicitDefEqProofs only [hlt, g0, g1, g2, hw1, hw2, Int.toNat_natCast, v1, v2, q1, q2, zero_le_cast, fa hba, go_sem, Nat.reduceAdd, Nat.reduceSub, Nat.reduceMul, Nat.reduceMod, Nat.reduceLT, Nat.reduceLeDiff, Nat.reduceEqDiff, Nat.reduceBEq, Nat.reduceDiv, Int.reduceLT, Int.reduceLE, Int.reduceToNat, Int.reduceNeg, Int.reduceEq, ↓reduceIte, reduceCtorEq, ↓reduceDIte]
        exact ih
theorem call_co (x : Int) (l : List Int) (hb : l.length + 1 < 1000000) : callOf pr 106 [.os (.t 1000000)] [(1000000, .arr false false (.int .i64) (x :: l))] = if incr x l = true then some (.os (.t 1000000), [(1000000, .arr false false (.int .i64) (x :: l))]) else some (.sub (.t 1000000) 0 (comp (x :: l)).length, [(1000000, .arr false false (.int .i64) (comp (x :: l) ++ List.replicate ((x :: l).length - (comp (x :: l)).length) 0))]) := by
  obtain ⟨i1, i2⟩ := loop_co0 l [] x (by simp; omega)
  simp only [List.nil_append, List.length_nil, Nat.zero_add] at i1 i2
  rw [call_eq pr 106 _ _ Try.f106 fn_106 _ rfl _ ann_106 rfl]
  cases l with
  | nil =>
    rw [if_pos (show incr x [] = true from rfl)]
    have h1 : (((1 : Nat) : Int) < 2) = True := tr (by omega)
    simp -implicitDefEqProofs only [h1, go_sem, Nat.reduceAdd, Nat.reduceSub, Nat.reduceMul, Nat.reduceMod, Nat.reduceLT, Nat.reduceLeDiff, Nat.reduceEqDiff, Nat.reduceBEq, Nat.reduceDiv, Int.reduceLT, Int.reduceLE, Int.reduceToNat, Int.reduceNeg, Int.reduceEq, ↓reduceIte, reduceCtorEq, ↓reduceDIte]
  | cons y l =>
    have hl : (((x :: y :: l).length : Int) < 2) = False := fa (by simp; omega)
    cases hi : incr x (y :: l) with
    | true =>
      have h : loopOf pr 106 0 ⟨[(0, .os (.t 1000000)), (3, I 1)], [(1000000, .arr false false (.int .i64) (x :: y :: l))]⟩ = _ := i1 hi
      rw [if_pos (show (true = true) from rfl)]
      simp only [List.length_cons] at hl
      simp -implicitDefEqProofs only [hl, h, go_sem, Nat.reduceAdd, Nat.reduceSub, Nat.reduceMul, Nat.reduceMod, Nat.reduceLT, Nat.reduceLeDiff, Nat.reduceEqDiff, Nat.reduceBEq, Nat.reduceDiv, Int.reduceLT, Int.reduceLE, Int.reduceToNat, Int.reduceNeg, Int.reduceEq, ↓reduceIte, reduceCtorEq, ↓reduceDIte]
    | false =>
      have h : loopOf pr 106 0 ⟨[(0, .os (.t 1000000)), (3, I 1)], [(1000000, .arr false false (.int .i64) (x :: y :: l))]⟩ = _ := i2 hi
      rw [if_neg (by simp)]
      simp only [List.length_cons] at hl
      have e : 1 + (y :: l).length = (x :: y :: l).length := by simp; omega
      rw [e] at h
      simp -implicitDefEqProofs only [hl, h, go_sem, Nat.reduceAdd, Nat.reduceSub, Nat.reduceMul, Nat.reduceMod, Nat.reduceLT, Nat.reduceLeDiff, Nat.reduceEqDiff, Nat.reduceBEq, Nat.reduceDiv, Int.reduceLT, Int.reduceLE, Int.reduceToNat, Int.reduceNeg, Int.reduceEq, ↓reduceIte, reduceCtorEq, ↓reduceDIte]
      rfl
theorem call_co0 : callOf pr 106 [.nilS] [] = some (.nilS, []) := by
  rw [call_eq pr 106 _ _ Try.f106 fn_106 _ rfl _ ann_106 rfl]
  simp -implicitDefEqProofs only [go_sem, Nat.reduceAdd, Nat.reduceSub, Nat.reduceMul, Nat.reduceMod, Nat.reduceLT, Nat.reduceLeDiff, Nat.reduceEqDiff, Nat.reduceBEq, Nat.reduceDiv, Int.reduceLT, Int.reduceLE, Int.reduceToNat, Int.reduceNeg, Int.reduceEq, ↓reduceIte, reduceCtorEq, ↓reduceDIte]
theorem call_st0 : callOf pr 77 [L []] [] = some (.nilS, []) := by
  have h := call_sorted0
  rw [call_eq pr 77 _ _ Try.f77 fn_77 _ rfl _ ann_77 rfl]
  simp -implicitDefEqProofs only [call_values, h, call_co0, go_sem, Nat.reduceAdd, Nat.reduceSub, Nat.reduceMul, Nat.reduceMod, Nat.reduceLT, Nat.reduceLeDiff, Nat.reduceEqDiff, Nat.reduceBEq, Nat.reduceDiv, Int.reduceLT, Int.reduceLE, Int.reduceToNat, Int.reduceNeg, Int.reduceEq, ↓reduceIte, reduceCtorEq, ↓reduceDIte]
theorem call_st (fr : List Int) (h0 : ¬ fr.length = 0) (hl : fr.length < 100000) : callOf pr 77 [L fr] [] = some (.os (.t 320), [(320, .arr true false (.int .i64) (comp (sortI fr)))]) := by
  have h := call_sorted fr h0 (by omega)
  have hs : (sortI fr).length = fr.length := sortI_length fr
  obtain ⟨x, l, hx⟩ : ∃ x l, sortI fr = x :: l := by
    cases hc : sortI fr with
    | nil => rw [hc] at hs; simp at hs; omega
    | cons x l => exact ⟨x, l, rfl⟩
  have h2 := call_co x l (by rw [hx] at hs; simp at hs; omega)
  rw [hx] at h
  rw [hx, call_eq pr 77 _ _ Try.f77 fn_77 _ rfl _ ann_77 rfl]
  cases hi : incr x l with
  | true =>
    rw [hi, if_pos rfl] at h2
    have hc : comp (x :: l) = x :: l := by simp only [comp, pushC_incr hi]
    rw [hc]
    simp -implicitDefEqProofs only [call_values, h, h2, go_sem, Nat.reduceAdd, Nat.reduceSub, Nat.reduceMul, Nat.reduceMod, Nat.reduceLT, Nat.reduceLeDiff, Nat.reduceEqDiff, Nat.reduceBEq, Nat.reduceDiv, Int.reduceLT, Int.reduceLE, Int.reduceToNat, Int.reduceNeg, Int.reduceEq, ↓reduceIte, reduceCtorEq, ↓reduceDIte]
  | false =>
    rw [hi, if_neg (by simp)] at h2
    have hlt := pushC_less hi
    have hcond : (0 + (comp (x :: l)).length ≤ (comp (x :: l) ++ List.replicate (l.length + 1 - (comp (x :: l)).length) (0 : Int)).length ∧ 0 < (comp (x :: l) ++ List.replicate (l.length + 1 - (comp (x :: l)).length) (0 : Int)).length) = True := tr (by
      rw [List.length_append]
      simp only [comp, List.length_cons]
      omega)
    simp -implicitDefEqProofs only [call_values, h, h2, hcond, List.take_left, go_sem, Nat.reduceAdd, Nat.reduceSub, Nat.reduceMul, Nat.reduceMod, Nat.reduceLT, Nat.reduceLeDiff, Nat.reduceEqDiff, Nat.reduceBEq, Nat.reduceDiv, Int.reduceLT, Int.reduceLE, Int.reduceToNat, Int.reduceNeg, Int.reduceEq, ↓reduceIte, reduceCtorEq, ↓reduceDIte]
theorem incr_of : ∀ {c : Int} {l : List Int}, (c :: l).Pairwise (· ≠ ·) → incr c l = true
  | _, [], _ => rfl
  | c, e :: r, h => by
    rw [List.pairwise_cons] at h
    simp only [incr, Bool.and_eq_true, decide_eq_true_eq]
    exact ⟨fun q => h.1 e (by simp) q.symm, incr_of h.2⟩
theorem comp_nodup {l : List Int} (h : l.Pairwise (· ≠ ·)) : comp (sortI l) = sortI l := by
  have hs : (sortI l).Pairwise (· ≠ ·) := ((sortI_perm l).pairwise_iff (fun {a b} h => Ne.symm h)).2 h
  cases hc : sortI l with
  | nil => rfl
  | cons x r =>
    rw [hc] at hs
    simp only [comp, pushC_incr (incr_of hs)]
/-- Contents that are valid. -/
def OKn (now : List Int) : Prop := (∀ x ∈ now, -1 ≤ x ∧ x ≤ 63) ∧ (now.filter fun x => decide (0 ≤ x)).Pairwise (· ≠ ·)
theorem call_vc1 (x : Int) : callOf pr 76 [I x] [] = some (B (decide (x < 0)), []) := by
  rw [call_eq pr 76 _ _ Try.f76 fn_76 _ rfl _ ann_76 rfl]
  simp -implicitDefEqProofs only [go_sem, Nat.reduceAdd, Nat.reduceSub, Nat.reduceMul, Nat.reduceMod, Nat.reduceLT, Nat.reduceLeDiff, Nat.reduceEqDiff, Nat.reduceBEq, Nat.reduceDiv, Int.reduceLT, Int.reduceLE, Int.reduceToNat, Int.reduceNeg, Int.reduceEq, ↓reduceIte, reduceCtorEq, ↓reduceDIte]
theorem call_vc (hit : List (List Int)) (miss now : List Int) (hv : validP hit miss = true) (hn : now.length = miss.length) (hok : OKn now) : callOf pr 39 [.agg [LL hit, L miss], L now] [] = some (B true, []) := by
  obtain ⟨v1, v2, v3, v4, v5⟩ := validP_bound hv
  have g1 := call_vp hit miss (by omega) (by omega) (fun l hl => by have := (v5 l hl).1; omega)
  rw [hv] at g1
  have g2 := call_73 now (by omega) (-1) 63
  have ha : (!(now.any fun n => !decide (-1 ≤ n ∧ n ≤ 63))) = true := by
    rw [Bool.not_eq_true', List.any_eq_false]
    intro x hx
    have := hok.1 x hx
    simp; omega
  rw [ha] at g2
  have h0 : ¬ now.length = 0 := by omega
  have g3 := call_clone now h0 (by omega)
  have g4 := call_74 (fun x => decide (x < 0)) 76 [] ⟨rfl, of_decide_eq_true rfl⟩ rfl now (by omega) (fun x _ => call_vc1 x)
  have hf : (now.filter fun x => !decide (x < 0)) = now.filter fun x => decide (0 ≤ x) := by
    congr 1
    funext x
    rw [Bool.eq_iff_iff]
    simp
  rw [hf] at g4
  have hnl : ((now.length : Int) = (miss.length : Int)) = True := tr (by omega)
  have hcp := comp_nodup hok.2
  have hsl := sortI_length (now.filter fun x => decide (0 ≤ x))
  have hfl : (now.filter fun x => decide (0 ≤ x)).length ≤ now.length := List.length_filter_le _ _
  rw [call_eq pr 39 _ _ Try.f39 fn_39 _ rfl _ ann_39 rfl]
  cases hany : now.any (fun x => decide (x < 0)) with
  | false =>
    rw [hany, if_neg (by simp)] at g4
    have hall : (now.filter fun x => decide (0 ≤ x)) = now := by
      rw [List.filter_eq_self]
      intro x hx
      rw [List.any_eq_false] at hany
      have := hany x hx
      simp at this ⊢
      omega
    rw [hall] at hcp hsl
    have g5 := call_st now h0 (by omega)
    rw [hcp] at g5
    simp -implicitDefEqProofs only [g1, g2, g3, g4, g5, hnl, hsl, go_sem, Nat.reduceAdd, Nat.reduceSub, Nat.reduceMul, Nat.reduceMod, Nat.reduceLT, Nat.reduceLeDiff, Nat.reduceEqDiff, Nat.reduceBEq, Nat.reduceDiv, Int.reduceLT, Int.reduceLE, Int.reduceToNat, Int.reduceNeg, Int.reduceEq, ↓reduceIte, reduceCtorEq, ↓reduceDIte]
  | true =>
    rw [hany, if_pos rfl] at g4
    generalize hF : (now.filter fun x => decide (0 ≤ x)) = F at *
    by_cases hF0 : F.length = 0
    · have hF1 : F = [] := List.eq_nil_of_length_eq_zero hF0
      subst hF1
      have g5 := call_st0
      simp -implicitDefEqProofs only [g1, g2, g3, g4, g5, hnl, hsl, go_sem, Nat.reduceAdd, Nat.reduceSub, Nat.reduceMul, Nat.reduceMod, Nat.reduceLT, Nat.reduceLeDiff, Nat.reduceEqDiff, Nat.reduceBEq, Nat.reduceDiv, Int.reduceLT, Int.reduceLE, Int.reduceToNat, Int.reduceNeg, Int.reduceEq, ↓reduceIte, reduceCtorEq, ↓reduceDIte]
      rfl
    · have g5 := call_st F hF0 (by omega)
      rw [hcp] at g5
      simp -implicitDefEqProofs only [g1, g2, g3, g4, g5, hnl, hsl, List.take_left, go_sem, Nat.reduceAdd, Nat.reduceSub, Nat.reduceMul, Nat.reduceMod, Nat.reduceLT, Nat.reduceLeDiff, Nat.reduceEqDiff, Nat.reduceBEq, Nat.reduceDiv, Int.reduceLT, Int.reduceLE, Int.reduceToNat, Int.reduceNeg, Int.reduceEq, ↓reduceIte, reduceCtorEq, ↓reduceDIte]
theorem call_emc (hit : List (List Int)) (miss : List Int) (hv : validP hit miss = true) : callOf pr 36 [.agg [LL hit, L miss]] [] = some (.tuple [.os (.t 512), B true], [(512, .arr true false (.int .i64) (emptyC miss))]) := by
  obtain ⟨v1, v2, v3, v4, v5⟩ := validP_bound hv
  have g1 := call_vp hit miss (by omega) (by omega) (fun l hl => by have := (v5 l hl).1; omega)
  rw [hv] at g1
  have g2 := call_iem hit miss v1 v2
  rw [call_eq pr 36 _ _ Try.f36 fn_36 _ rfl _ ann_36 rfl]
  simp -implicitDefEqProofs only [g1, g2, go_sem, Nat.reduceAdd, Nat.reduceSub, Nat.reduceMul, Nat.reduceMod, Nat.reduceLT, Nat.reduceLeDiff, Nat.reduceEqDiff, Nat.reduceBEq, Nat.reduceDiv, Int.reduceLT, Int.reduceLE, Int.reduceToNat, Int.reduceNeg, Int.reduceEq, ↓reduceIte, reduceCtorEq, ↓reduceDIte]
theorem call_isa (a : Int) : callOf pr 71 [I a] [] = some (B (decide (0 ≤ a ∧ a ≤ 63)), []) := by
  rw [call_eq pr 71 _ _ Try.f71 fn_71 _ rfl _ ann_71 rfl]
  simp -implicitDefEqProofs only [call_100, go_sem, Nat.reduceAdd, Nat.reduceSub, Nat.reduceMul, Nat.reduceMod, Nat.reduceLT, Nat.reduceLeDiff, Nat.reduceEqDiff, Nat.reduceBEq, Nat.reduceDiv, Int.reduceLT, Int.reduceLE, Int.reduceToNat, Int.reduceNeg, Int.reduceEq, ↓reduceIte, reduceCtorEq, ↓reduceDIte]
theorem call_stp (hit : List (List Int)) (miss now : List Int) (a : Int) (hv : validP hit miss = true) (hn : now.length = miss.length) (hok : OKn now) (ha : 0 ≤ a ∧ a ≤ 63) : callOf pr 38 [.agg [LL hit, L miss], L now, I a] [] = some (.tuple [.os (.t 1600), B (stepC hit miss now a).2.2, B true], [(1600, .arr true false (.int .i64) (stepC hit miss now a).1)]) := by
  have g0 := call_isa a
  rw [decide_eq_true ha] at g0
  have g1 := call_vc hit miss now hv hn hok
  have g2 := call_ist hit miss now a hv hn
  rw [call_eq pr 38 _ _ Try.f38 fn_38 _ rfl _ ann_38 rfl]
  unfold stepC
  cases hg : ageOf a now with
  | some i =>
    rw [hg] at g2
    simp only at g2
    simp -implicitDefEqProofs only [g0, g1, g2, go_sem, Nat.reduceAdd, Nat.reduceSub, Nat.reduceMul, Nat.reduceMod, Nat.reduceLT, Nat.reduceLeDiff, Nat.reduceEqDiff, Nat.reduceBEq, Nat.reduceDiv, Int.reduceLT, Int.reduceLE, Int.reduceToNat, Int.reduceNeg, Int.reduceEq, ↓reduceIte, reduceCtorEq, ↓reduceDIte]
  | none =>
    rw [hg] at g2
    simp only at g2
    simp -implicitDefEqProofs only [g0, g1, g2, go_sem, Nat.reduceAdd, Nat.reduceSub, Nat.reduceMul, Nat.reduceMod, Nat.reduceLT, Nat.reduceLeDiff, Nat.reduceEqDiff, Nat.reduceBEq, Nat.reduceDiv, Int.reduceLT, Int.reduceLE, Int.reduceToNat, Int.reduceNeg, Int.reduceEq, ↓reduceIte, reduceCtorEq, ↓reduceDIte]
theorem sum_s (xs : List Int) (t x t' : Int) (k : Nat) (hk : k < xs.length) (hb : xs.length < 1000000) (hx : ∀ z, xs.getD k z = x) (ht : IntKind.i64.wrap (t + x) = t') : loopOf pr 37 0 ⟨[(0, L xs), (3, I t), (4, I k)], []⟩ = loopOf pr 37 0 ⟨[(0, L xs), (3, I t'), (4, I ((k + 1 : Nat) : Int))], []⟩ := by
  have hw : IntKind.i64.wrap ((k : Int) + 1) = ((k + 1 : Nat) : Int) := by rw [wrap_i] <;> omega
  rw [loop_eq pr 37 0 _ Try.f37 fn_37 _ rfl _ ann_37 _ rfl]
  simp -implicitDefEqProofs only [lt_cast hk, zero_le_cast, Int.toNat_natCast, hx, ht, hw, go_sem, Nat.reduceAdd, Nat.reduceSub, Nat.reduceMul, Nat.reduceMod, Nat.reduceLT, Nat.reduceLeDiff, Nat.reduceEqDiff, Nat.reduceBEq, Nat.reduceDiv, Int.reduceLT, Int.reduceLE, Int.reduceToNat, Int.reduceNeg, Int.reduceEq, ↓reduceIte, reduceCtorEq, ↓reduceDIte]
theorem sum_e (xs : List Int) (t : Int) : loopOf pr 37 0 ⟨[(0, L xs), (3, I t), (4, I xs.length)], []⟩ = some (.exit 0, ⟨[(0, L xs), (3, I t), (4, I xs.length)], []⟩) := by
  rw [loop_eq pr 37 0 _ Try.f37 fn_37 _ rfl _ ann_37 _ rfl]
  simp -implicitDefEqProofs only [Int.lt_irrefl, go_sem, Nat.reduceAdd, Nat.reduceSub, Nat.reduceMul, Nat.reduceMod, Nat.reduceLT, Nat.reduceLeDiff, Nat.reduceEqDiff, Nat.reduceBEq, Nat.reduceDiv, Int.reduceLT, Int.reduceLE, Int.reduceToNat, Int.reduceNeg, Int.reduceEq, ↓reduceIte, reduceCtorEq, ↓reduceDIte]
theorem sum_l (xs : List Int) (hb : xs.length < 1000000) : ∀ (suf pre : List Int), xs = pre ++ suf → bits01 xs → loopOf pr 37 0 ⟨[(0, L xs), (3, I pre.sum), (4, I pre.length)], []⟩ = some (.exit 0, ⟨[(0, L xs), (3, I xs.sum), (4, I xs.length)], []⟩)
  | [], pre, e, h => by
    have e' : pre = xs := by rw [e, List.append_nil]
    rw [e']
    exact sum_e xs xs.sum
  | x :: suf, pre, e, h => by
    have hl : pre.length < xs.length := by rw [e]; simp
    have hbp : bits01 pre := fun y hy => h y (by rw [e]; simp [hy])
    have hx := h x (by rw [e]; simp)
    have hs := sum01 pre hbp
    have hsum : (pre ++ [x]).sum = pre.sum + x := by simp
    have hw : IntKind.i64.wrap (pre.sum + x) = (pre ++ [x]).sum := by rw [hsum, wrap_i] <;> omega
    rw [sum_s xs pre.sum x (pre ++ [x]).sum pre.length hl hb (fun z => by rw [e]; simp) hw]
    have ih := sum_l xs hb suf (pre ++ [x]) (by rw [e]; simp) h
    rw [show (pre ++ [x]).length = pre.length + 1 by simp] at ih
    exact ih
theorem call_sum (xs : List Int) (hb : xs.length < 1000000) (h : bits01 xs) : callOf pr 37 [L xs] [] = some (I xs.sum, []) := by
  have h1 := sum_l xs hb xs [] rfl h
  have h1 : loopOf pr 37 0 ⟨[(0, L xs), (3, I 0), (4, I 0)], []⟩ = _ := h1
  rw [call_eq pr 37 _ _ Try.f37 fn_37 _ rfl _ ann_37 rfl]
  simp -implicitDefEqProofs only [h1, go_sem, Nat.reduceAdd, Nat.reduceSub, Nat.reduceMul, Nat.reduceMod, Nat.reduceLT, Nat.reduceLeDiff, Nat.reduceEqDiff, Nat.reduceBEq, Nat.reduceDiv, Int.reduceLT, Int.reduceLE, Int.reduceToNat, Int.reduceNeg, Int.reduceEq, ↓reduceIte, reduceCtorEq, ↓reduceDIte]
theorem order_to_perm {l : List Int} {n : Nat} (h : orderB l n = true) : List.Perm l (ascL n) := by
  simp only [orderB, decide_eq_true_eq] at h
  have hp := (sortI_perm l).symm
  rw [h.2, those_true] at hp
  exact hp
theorem perm_perm {now row : List Int} {n : Nat} (hn : now.length = n) (h : orderB row n = true) : List.Perm (perm now row) now := by
  have h1 : List.Perm (perm now row) (perm now (ascL n)) := (order_to_perm h).map _
  rw [perm_asc hn] at h1
  exact h1
theorem OKn.perm {a b : List Int} (h : List.Perm a b) (hb : OKn b) : OKn a := by
  refine ⟨fun x hx => hb.1 x (h.mem_iff.1 hx), ?_⟩
  exact ((h.filter _).pairwise_iff (fun {a b} h => Ne.symm h)).2 hb.2
theorem ageOf_mem {a : Int} {now : List Int} : (ageOf a now).isSome = now.contains a := by
  unfold ageOf
  rw [List.findIdx?_isSome, List.contains_eq_any_beq]
  congr 1
  funext x
  by_cases h : x = a
  · rw [h]; simp
  · have h2 : ¬ a = x := fun e => h e.symm
    simp [h, h2]
theorem set_last {now : List Int} (h : 0 < now.length) (a : Int) : now.set (now.length - 1) a = now.take (now.length - 1) ++ [a] := by
  apply List.ext_getElem?
  intro i
  rw [List.getElem?_set]
  by_cases h1 : i < now.length - 1
  · rw [if_neg (by omega), List.getElem?_append_left (by simp; omega), List.getElem?_take, if_pos h1]
  · rw [List.getElem?_append_right (by simp; omega)]
    have e : (now.take (now.length - 1)).length = now.length - 1 := by simp
    rw [e]
    by_cases h2 : now.length - 1 = i
    · rw [if_pos h2, if_pos (by omega), ← h2]; simp
    · rw [if_neg h2, List.getElem?_eq_none (by omega), List.getElem?_eq_none (by simp; omega)]
theorem OKn.put {now : List Int} (h0 : 0 < now.length) (hb : OKn now) {a : Int} (ha : 0 ≤ a ∧ a ≤ 63) (hc : now.contains a = false) : OKn (now.set (now.length - 1) a) := by
  rw [set_last h0]
  have hsub : ∀ x ∈ now.take (now.length - 1), x ∈ now := fun x hx => List.mem_of_mem_take hx
  have hna : a ∉ now := by simpa using hc
  refine ⟨fun x hx => ?_, ?_⟩
  · rcases List.mem_append.1 hx with hx | hx
    · exact hb.1 x (hsub x hx)
    · rw [List.mem_singleton.1 hx]; omega
  · rw [List.filter_append, List.pairwise_append]
    refine ⟨?_, ?_, fun x hx y hy => ?_⟩
    · exact List.Pairwise.sublist ((List.take_sublist _ _).filter _) hb.2
    · simp only [List.filter_cons, List.filter_nil]; split <;> simp
    · have hx' := hsub x (List.mem_filter.1 hx).1
      have hy' := List.mem_singleton.1 (List.mem_filter.1 hy).1
      rw [hy']
      exact fun e => hna (e ▸ hx')
/-- What a step does. -/
theorem step_facts {hit : List (List Int)} {miss now : List Int} (hv : validP hit miss = true) (hn : now.length = miss.length) (hok : OKn now) {a : Int} (ha : 0 ≤ a ∧ a ≤ 63) :
    (stepC hit miss now a).2.2 = now.contains a ∧ (stepC hit miss now a).1.contains a = true ∧ OKn (stepC hit miss now a).1 ∧ (stepC hit miss now a).1.length = miss.length ∧
    ((stepC hit miss now a).2.2 = true → (stepC hit miss now a).2.1 = -1) ∧ ((stepC hit miss now a).2.2 = false → (stepC hit miss now a).2.1 = now.getD (now.length - 1) 0) := by
  have hvi := (validP_iff).1 hv
  have hc := ageOf_mem (a := a) (now := now)
  have hlen := stepC_length a hv hn
  unfold stepC at hlen ⊢
  cases hg : ageOf a now with
  | some i =>
    rw [hg] at hc hlen
    simp only [Option.isSome_some] at hc
    simp only at hlen ⊢
    have hi := ageOf_lt hg
    have hm : hit.getD i [] ∈ hit := by rw [getD_of_lt (show i < hit.length by omega)]; exact List.getElem_mem (show i < hit.length by omega)
    have hp := perm_perm (now := now) (row := hit.getD i []) (n := miss.length) hn (hvi.2.2 _ hm)
    refine ⟨hc, ?_, hok.perm hp, hlen, by simp, by simp⟩
    have : a ∈ now := by simpa using hc.symm
    simpa using hp.mem_iff.2 this
  | none =>
    rw [hg] at hc hlen
    simp only [Option.isSome_none] at hc
    simp only at hlen ⊢
    have h0 : 0 < now.length := by omega
    have hp := perm_perm (now := now.set (now.length - 1) a) (row := miss) (n := miss.length) (by rw [List.length_set]; exact hn) hvi.2.1
    refine ⟨hc, ?_, (OKn.put h0 hok ha hc.symm).perm hp, hlen, by simp, by simp⟩
    have : a ∈ now.set (now.length - 1) a := by rw [set_last h0]; simp
    simpa using hp.mem_iff.2 this
theorem OKn_empty (miss : List Int) : OKn (emptyC miss) := by
  refine ⟨fun x hx => ?_, ?_⟩
  · have := List.eq_of_mem_replicate hx
    omega
  · have : (emptyC miss).filter (fun x => decide (0 ≤ x)) = [] := by
      rw [List.filter_eq_nil_iff]
      intro x hx
      have := List.eq_of_mem_replicate hx
      subst this
      simp
    rw [this]
    exact List.Pairwise.nil
end Go.Proofs.Ytfooniikopekoaa.PI
