/- MapPage. -/
import Derived.Test.YticpldfkjldepaaGreatM3
namespace Go.Proofs.YticpldfkjldepaaGreat.PI
open Go Go.Q
set_option maxRecDepth 100000
set_option maxHeartbeats 4000000
set_option linter.unusedSimpArgs false
set_option linter.unusedVariables false
theorem put2_eq {r : List Int} {t : List (List En)} {p : Int} (e : En) : (tabs2 r t p).set (rootAt (root2 r t p) p).toNat ((rowAt (root2 r t p) (tabs2 r t p) p).set (pgJ p) e) = putT (root2 r t p) (tabs2 r t p) p e := rfl
theorem call_sm (r : List Int) (t : List (List En)) (b : List Ca) (p f : Int) (w : Bool) (hb : b.length < 2000000) : callOf pr 19 [.agg [L r, LLE t, LC b], I p, I f, B w] [] = if mapC r t b p f = true then some (.tuple [.agg [.os (.t 3968), .os (.t 3970), .os (.t 3969)], B true], [(3968, .arr true false (.int .i64) (root2 r t p)), (3969, .arr true false tyC b), (3970, .arr true true (.slice tyE) (mapT r t p f w))]) else some (.tuple [.agg [.nilS, .nilS, .nilS], B false], []) := by
  have h1 := call_si r t b
  have h3 := call_ad p
  have h4 := call_fr f
  rw [call_eq pr 19 _ _ Tryz.f19 fn_19 _ rfl _ ann_19 rfl]
  cases hs : specS r t b with
  | false =>
    rw [hs] at h1
    rw [if_neg (by simp [mapC, hs])]
    simp -implicitDefEqProofs only [h1, go_sem, Nat.reduceAdd, Nat.reduceSub, Nat.reduceMul, Nat.reduceMod, Nat.reduceLT, Nat.reduceLeDiff, Nat.reduceEqDiff, Nat.reduceBEq, Nat.reduceDiv, Int.reduceLT, Int.reduceLE, Int.reduceToNat, Int.reduceNeg, Int.reduceEq, ↓reduceIte, reduceCtorEq, ↓reduceDIte]
  | true =>
    rw [hs] at h1
    obtain ⟨s1, s2, s3, s4, s5⟩ := spec_tab hs
    cases ha : addrB p with
    | false =>
      rw [ha] at h3
      rw [if_neg (by simp [mapC, ha])]
      simp -implicitDefEqProofs only [h1, h3, go_sem, Nat.reduceAdd, Nat.reduceSub, Nat.reduceMul, Nat.reduceMod, Nat.reduceLT, Nat.reduceLeDiff, Nat.reduceEqDiff, Nat.reduceBEq, Nat.reduceDiv, Int.reduceLT, Int.reduceLE, Int.reduceToNat, Int.reduceNeg, Int.reduceEq, ↓reduceIte, reduceCtorEq, ↓reduceDIte]
    | true =>
      rw [ha] at h3
      cases hf : frameB f with
      | false =>
        rw [hf] at h4
        rw [if_neg (by simp [mapC, hf])]
        simp -implicitDefEqProofs only [h1, h3, h4, go_sem, Nat.reduceAdd, Nat.reduceSub, Nat.reduceMul, Nat.reduceMod, Nat.reduceLT, Nat.reduceLeDiff, Nat.reduceEqDiff, Nat.reduceBEq, Nat.reduceDiv, Int.reduceLT, Int.reduceLE, Int.reduceToNat, Int.reduceNeg, Int.reduceEq, ↓reduceIte, reduceCtorEq, ↓reduceDIte]
      | true =>
        rw [hf] at h4
        have h5 := call_wk r t b p ha s1 s4 s3
        by_cases hw : 0 ≤ (walkS r t p).1
        · rw [if_neg (by simp only [mapC, hs, ha, hf, Bool.true_and, Bool.and_eq_true, decide_eq_true_eq]; omega)]
          simp -implicitDefEqProofs only [h1, h3, h4, h5, tr hw, ge_iff_le, go_sem, Nat.reduceAdd, Nat.reduceSub, Nat.reduceMul, Nat.reduceMod, Nat.reduceLT, Nat.reduceLeDiff, Nat.reduceEqDiff, Nat.reduceBEq, Nat.reduceDiv, Int.reduceLT, Int.reduceLE, Int.reduceToNat, Int.reduceNeg, Int.reduceEq, ↓reduceIte, reduceCtorEq, ↓reduceDIte]
        · have h6 := call_fre r t b s1 s4 s3
          have hfl : (freeS r t).length ≤ 16 := those_length _ _
          have h7 := call_has f (freeS r t) (by omega)
          rw [free_eq hs hf] at h7
          cases hc : ((frT t).any fun y => decide (f = y)) with
          | true =>
            rw [hc] at h7
            rw [if_neg (by simp [mapC, hc])]
            simp -implicitDefEqProofs only [h1, h3, h4, h5, fa hw, ge_iff_le, h6, h7, go_sem, Nat.reduceAdd, Nat.reduceSub, Nat.reduceMul, Nat.reduceMod, Nat.reduceLT, Nat.reduceLeDiff, Nat.reduceEqDiff, Nat.reduceBEq, Nat.reduceDiv, Int.reduceLT, Int.reduceLE, Int.reduceToNat, Int.reduceNeg, Int.reduceEq, ↓reduceIte, reduceCtorEq, ↓reduceDIte]
          | false =>
            rw [hc] at h7
            have hh : mapC r t b p f = true := by simp only [mapC, hs, ha, hf, hc, Bool.true_and, Bool.not_false, Bool.and_true, decide_eq_true_eq]; omega
            rw [if_pos hh]
            obtain ⟨m1, m2, m3, m4, m5⟩ := map_facts hs ha
            obtain ⟨hq, hm, hi, hj⟩ := page_facts ha
            have i1 : (((pgI p : Nat) : Int) < (r.length : Int)) = True := tr (by omega)
            have i2 : (pgI p < r.length) = True := tr (by omega)
            have hroot : r.getD (pgI p) 0 = rootAt r p := rfl
            have h8 := call_so r t b (by omega) (by omega) (fun x hx' => by rw [s3 x hx']; omega) hb
            have h9 := call_pu (root2 r t p) (tabs2 r t p) b p ha m1 m2 m3 hb (by omega) m4 f w false false
            by_cases h0 : rootAt r p < 0
            · have e1 : root2 r t p = r.set (pgI p) t.length := if_pos h0
              have e2 : tabs2 r t p = t ++ [tab8] := if_pos h0
              simp only [mapT]
              rw [e1, e2] at h9
              rw [e1, e2]
              have h10 := call_st8
              have hroom : ((t.length + 1) * 24 ≤ 140737488355328 ∧ t.length ≤ 9223372036854775806) = True := tr (by omega)
              simp -implicitDefEqProofs only [h1, h3, h4, h5, fa hw, ge_iff_le, h6, h7, h8, hq, hm, zero_le_cast, Int.toNat_natCast, i1, i2, hroot, tr h0, h10, hroom, h9, go_sem, Nat.reduceAdd, Nat.reduceSub, Nat.reduceMul, Nat.reduceMod, Nat.reduceLT, Nat.reduceLeDiff, Nat.reduceEqDiff, Nat.reduceBEq, Nat.reduceDiv, Int.reduceLT, Int.reduceLE, Int.reduceToNat, Int.reduceNeg, Int.reduceEq, ↓reduceIte, reduceCtorEq, ↓reduceDIte]
            · have e1 : root2 r t p = r := if_neg h0
              have e2 : tabs2 r t p = t := if_neg h0
              simp only [mapT]
              rw [e1, e2] at h9
              rw [e1, e2]
              simp -implicitDefEqProofs only [h1, h3, h4, h5, fa hw, ge_iff_le, h6, h7, h8, hq, hm, zero_le_cast, Int.toNat_natCast, i1, i2, hroot, fa h0, h9, go_sem, Nat.reduceAdd, Nat.reduceSub, Nat.reduceMul, Nat.reduceMod, Nat.reduceLT, Nat.reduceLeDiff, Nat.reduceEqDiff, Nat.reduceBEq, Nat.reduceDiv, Int.reduceLT, Int.reduceLE, Int.reduceToNat, Int.reduceNeg, Int.reduceEq, ↓reduceIte, reduceCtorEq, ↓reduceDIte]
/-! the program's -/
theorem call_enn0 (r : List Int) (t : List (List En)) (b : List Ca) (p : Int) (ha : addrB p = true) (h8 : r.length = 8) (hr : ∀ x ∈ r, -1 ≤ x ∧ x ≤ (t.length : Int) - 1) (hx : ∀ x ∈ t, x.length = 8) (h0 : rootAt r p < 0) : callOf pr 74 [.agg [.os (.t 1000000), .nilS, .empS], I p] [(1000000, .arr false false (.int .i64) r)] = some (.nilP, [(1000000, .arr false false (.int .i64) r)]) := by
  obtain ⟨hq, hm, hi, hj⟩ := page_facts ha
  have i1 : (((pgI p : Nat) : Int) < (r.length : Int)) = True := tr (by omega)
  have i2 : (pgI p < r.length) = True := tr (by omega)
  have hroot : r.getD (pgI p) 0 = rootAt r p := rfl
  rw [call_eq pr 74 _ _ Tryz.f74 fn_74 _ rfl _ ann_74 rfl]
  simp -implicitDefEqProofs only [hq, hm, zero_le_cast, Int.toNat_natCast, i1, i2, hroot, tr h0, go_sem, Nat.reduceAdd, Nat.reduceSub, Nat.reduceMul, Nat.reduceMod, Nat.reduceLT, Nat.reduceLeDiff, Nat.reduceEqDiff, Nat.reduceBEq, Nat.reduceDiv, Int.reduceLT, Int.reduceLE, Int.reduceToNat, Int.reduceNeg, Int.reduceEq, ↓reduceIte, reduceCtorEq, ↓reduceDIte]
theorem call_enn1 (r : List Int) (t : List (List En)) (b : List Ca) (p : Int) (ha : addrB p = true) (h8 : r.length = 8) (hr : ∀ x ∈ r, -1 ≤ x ∧ x ≤ (t.length : Int) - 1) (hx : ∀ x ∈ t, x.length = 8) (h0 : rootAt r p < 0) : callOf pr 74 [.agg [.os (.t 1000000), .nilS, .os (.t 1000001)], I p] [(1000000, .arr false false (.int .i64) r), (1000001, .arr false false tyC b)] = some (.nilP, [(1000000, .arr false false (.int .i64) r), (1000001, .arr false false tyC b)]) := by
  obtain ⟨hq, hm, hi, hj⟩ := page_facts ha
  have i1 : (((pgI p : Nat) : Int) < (r.length : Int)) = True := tr (by omega)
  have i2 : (pgI p < r.length) = True := tr (by omega)
  have hroot : r.getD (pgI p) 0 = rootAt r p := rfl
  rw [call_eq pr 74 _ _ Tryz.f74 fn_74 _ rfl _ ann_74 rfl]
  simp -implicitDefEqProofs only [hq, hm, zero_le_cast, Int.toNat_natCast, i1, i2, hroot, tr h0, go_sem, Nat.reduceAdd, Nat.reduceSub, Nat.reduceMul, Nat.reduceMod, Nat.reduceLT, Nat.reduceLeDiff, Nat.reduceEqDiff, Nat.reduceBEq, Nat.reduceDiv, Int.reduceLT, Int.reduceLE, Int.reduceToNat, Int.reduceNeg, Int.reduceEq, ↓reduceIte, reduceCtorEq, ↓reduceDIte]
theorem call_enn2 (r : List Int) (t : List (List En)) (b : List Ca) (p : Int) (ha : addrB p = true) (h8 : r.length = 8) (hr : ∀ x ∈ r, -1 ≤ x ∧ x ≤ (t.length : Int) - 1) (hx : ∀ x ∈ t, x.length = 8) (h0 : rootAt r p < 0) : callOf pr 74 [.agg [.os (.t 1000000), .os (.t 1000001), .empS], I p] [(1000000, .arr false false (.int .i64) r), (1000001, .arr false true (.slice tyE) t)] = some (.nilP, [(1000000, .arr false false (.int .i64) r), (1000001, .arr false true (.slice tyE) t)]) := by
  obtain ⟨hq, hm, hi, hj⟩ := page_facts ha
  have i1 : (((pgI p : Nat) : Int) < (r.length : Int)) = True := tr (by omega)
  have i2 : (pgI p < r.length) = True := tr (by omega)
  have hroot : r.getD (pgI p) 0 = rootAt r p := rfl
  rw [call_eq pr 74 _ _ Tryz.f74 fn_74 _ rfl _ ann_74 rfl]
  simp -implicitDefEqProofs only [hq, hm, zero_le_cast, Int.toNat_natCast, i1, i2, hroot, tr h0, go_sem, Nat.reduceAdd, Nat.reduceSub, Nat.reduceMul, Nat.reduceMod, Nat.reduceLT, Nat.reduceLeDiff, Nat.reduceEqDiff, Nat.reduceBEq, Nat.reduceDiv, Int.reduceLT, Int.reduceLE, Int.reduceToNat, Int.reduceNeg, Int.reduceEq, ↓reduceIte, reduceCtorEq, ↓reduceDIte]
theorem call_enn3 (r : List Int) (t : List (List En)) (b : List Ca) (p : Int) (ha : addrB p = true) (h8 : r.length = 8) (hr : ∀ x ∈ r, -1 ≤ x ∧ x ≤ (t.length : Int) - 1) (hx : ∀ x ∈ t, x.length = 8) (h0 : rootAt r p < 0) : callOf pr 74 [.agg [.os (.t 1000000), .os (.t 1000001), .os (.t 1000002)], I p] [(1000000, .arr false false (.int .i64) r), (1000001, .arr false true (.slice tyE) t), (1000002, .arr false false tyC b)] = some (.nilP, [(1000000, .arr false false (.int .i64) r), (1000001, .arr false true (.slice tyE) t), (1000002, .arr false false tyC b)]) := by
  obtain ⟨hq, hm, hi, hj⟩ := page_facts ha
  have i1 : (((pgI p : Nat) : Int) < (r.length : Int)) = True := tr (by omega)
  have i2 : (pgI p < r.length) = True := tr (by omega)
  have hroot : r.getD (pgI p) 0 = rootAt r p := rfl
  rw [call_eq pr 74 _ _ Tryz.f74 fn_74 _ rfl _ ann_74 rfl]
  simp -implicitDefEqProofs only [hq, hm, zero_le_cast, Int.toNat_natCast, i1, i2, hroot, tr h0, go_sem, Nat.reduceAdd, Nat.reduceSub, Nat.reduceMul, Nat.reduceMod, Nat.reduceLT, Nat.reduceLeDiff, Nat.reduceEqDiff, Nat.reduceBEq, Nat.reduceDiv, Int.reduceLT, Int.reduceLE, Int.reduceToNat, Int.reduceNeg, Int.reduceEq, ↓reduceIte, reduceCtorEq, ↓reduceDIte]
theorem call_len0 : callOf pr 75 [.nilS] [] = some (I 0, []) := by
  rw [call_eq pr 75 _ _ Tryz.f75 fn_75 _ rfl _ ann_75 rfl]
  simp -implicitDefEqProofs only [go_sem, Nat.reduceAdd, Nat.reduceSub, Nat.reduceMul, Nat.reduceMod, Nat.reduceLT, Nat.reduceLeDiff, Nat.reduceEqDiff, Nat.reduceBEq, Nat.reduceDiv, Int.reduceLT, Int.reduceLE, Int.reduceToNat, Int.reduceNeg, Int.reduceEq, ↓reduceIte, reduceCtorEq, ↓reduceDIte]
  try rfl
theorem call_im (r : List Int) (t : List (List En)) (b : List Ca) (p f : Int) (w : Bool) (hr : r.length < 2000000) (ht : t.length < 2000000) (hx : ∀ x ∈ t, x.length < 2000000) (hb : b.length < 2000000) : if mapC r t b p f = true then
      (b = [] ∧ callOf pr 21 [.agg [L r, LLE t, LC b], I p, I f, B w] [] = some (.tuple [.agg [.os (.t 2176), .os (.t 3264), .empS], B true], [(2176, .arr true false (.int .i64) (root2 r t p)), (3264, .arr true true (.slice tyE) (mapT r t p f w))])) ∨
      (callOf pr 21 [.agg [L r, LLE t, LC b], I p, I f, B w] [] = some (.tuple [.agg [.os (.t 2176), .os (.t 3264), .os (.t 2177)], B true], [(2176, .arr true false (.int .i64) (root2 r t p)), (2177, .arr true false tyC b), (3264, .arr true true (.slice tyE) (mapT r t p f w))])) ∨
      (b = [] ∧ callOf pr 21 [.agg [L r, LLE t, LC b], I p, I f, B w] [] = some (.tuple [.agg [.os (.t 2176), .os (.t 2177), .empS], B true], [(2176, .arr true false (.int .i64) (root2 r t p)), (2177, .arr true true (.slice tyE) (mapT r t p f w))])) ∨
      (callOf pr 21 [.agg [L r, LLE t, LC b], I p, I f, B w] [] = some (.tuple [.agg [.os (.t 2176), .os (.t 2178), .os (.t 2177)], B true], [(2176, .arr true false (.int .i64) (root2 r t p)), (2177, .arr true false tyC b), (2178, .arr true true (.slice tyE) (mapT r t p f w))]))
    else callOf pr 21 [.agg [L r, LLE t, LC b], I p, I f, B w] [] = some (.tuple [.agg [.nilS, .nilS, .nilS], B false], []) := by
  have h1 := call_ip r t b p hr ht hx hb
  have h4 := call_if f
  cases hs : (specS r t b && addrB p) with
  | false =>
    rw [hs] at h1
    rw [if_neg (by simp only [mapC, hs, Bool.false_and]; decide)]
    rw [call_eq pr 21 _ _ Tryz.f21 fn_21 _ rfl _ ann_21 rfl]
    simp -implicitDefEqProofs only [h1, go_sem, Nat.reduceAdd, Nat.reduceSub, Nat.reduceMul, Nat.reduceMod, Nat.reduceLT, Nat.reduceLeDiff, Nat.reduceEqDiff, Nat.reduceBEq, Nat.reduceDiv, Int.reduceLT, Int.reduceLE, Int.reduceToNat, Int.reduceNeg, Int.reduceEq, ↓reduceIte, reduceCtorEq, ↓reduceDIte]
  | true =>
    rw [hs] at h1
    have hs' := hs
    rw [Bool.and_eq_true] at hs'
    obtain ⟨s1, s2, s3, s4, s5⟩ := spec_tab hs'.1
    have ha := hs'.2
    cases hf : frameB f with
    | false =>
      rw [hf] at h4
      rw [if_neg (by simp [mapC, hf])]
      rw [call_eq pr 21 _ _ Tryz.f21 fn_21 _ rfl _ ann_21 rfl]
      simp -implicitDefEqProofs only [h1, h4, go_sem, Nat.reduceAdd, Nat.reduceSub, Nat.reduceMul, Nat.reduceMod, Nat.reduceLT, Nat.reduceLeDiff, Nat.reduceEqDiff, Nat.reduceBEq, Nat.reduceDiv, Int.reduceLT, Int.reduceLE, Int.reduceToNat, Int.reduceNeg, Int.reduceEq, ↓reduceIte, reduceCtorEq, ↓reduceDIte]
    | true =>
      rw [hf] at h4
      have h5 := call_mp r t b p ha s1 s4 s3
      by_cases hw : (walkS r t p).1 < 0
      case neg =>
        rw [if_neg hw] at h5
        rw [if_neg (by simp only [mapC, hs, hf, Bool.true_and, Bool.and_eq_true, decide_eq_true_eq]; omega)]
        rw [call_eq pr 21 _ _ Tryz.f21 fn_21 _ rfl _ ann_21 rfl]
        simp -implicitDefEqProofs only [h1, h4, h5, go_sem, Nat.reduceAdd, Nat.reduceSub, Nat.reduceMul, Nat.reduceMod, Nat.reduceLT, Nat.reduceLeDiff, Nat.reduceEqDiff, Nat.reduceBEq, Nat.reduceDiv, Int.reduceLT, Int.reduceLE, Int.reduceToNat, Int.reduceNeg, Int.reduceEq, ↓reduceIte, reduceCtorEq, ↓reduceDIte]
      case pos =>
        rw [if_pos hw] at h5
        have h6 := call_fs r t b s3 s2
        have hfl := frT_length s3
        have h7 := call_72 f (frT t) (by omega)
        cases hc : ((frT t).any fun y => decide (f = y)) with
        | true =>
          rw [hc] at h7
          rw [if_neg (by simp [mapC, hc])]
          rw [call_eq pr 21 _ _ Tryz.f21 fn_21 _ rfl _ ann_21 rfl]
          simp -implicitDefEqProofs only [h1, h4, h5, h6, h7, go_sem, Nat.reduceAdd, Nat.reduceSub, Nat.reduceMul, Nat.reduceMod, Nat.reduceLT, Nat.reduceLeDiff, Nat.reduceEqDiff, Nat.reduceBEq, Nat.reduceDiv, Int.reduceLT, Int.reduceLE, Int.reduceToNat, Int.reduceNeg, Int.reduceEq, ↓reduceIte, reduceCtorEq, ↓reduceDIte]
        | false =>
          rw [hc] at h7
          have hh : mapC r t b p f = true := by simp only [mapC, hs, hf, hc, Bool.true_and, Bool.not_false, Bool.and_true, decide_eq_true_eq]; omega
          rw [if_pos hh]
          obtain ⟨m1, m2, m3, m4, m5⟩ := map_facts hs'.1 ha
          obtain ⟨hq, hm, hi, hj⟩ := page_facts ha
          obtain ⟨g1, g2, g3⟩ := root_facts m1 hi m2 m3 m4
          have i1 : (((pgI p : Nat) : Int) < (r.length : Int)) = True := tr (by omega)
          have i2 : (pgI p < r.length) = True := tr (by omega)
          have k1 : (pgJ p < (rowAt (root2 r t p) (tabs2 r t p) p).length) = True := tr (by omega)
          have k2 : ((rootAt (root2 r t p) p).toNat < (tabs2 r t p).length) = True := tr g1
          have k3 : (tabs2 r t p).getD (rootAt (root2 r t p) p).toNat [] = rowAt (root2 r t p) (tabs2 r t p) p := rfl
          have k4 := put2_eq (r := r) (t := t) (p := p) (f, w, false, false, ())
          have n0 := call_eno0 (root2 r t p) (tabs2 r t p) b p ha m1 m2 m3 m4
          have n1 := call_eno1 (root2 r t p) (tabs2 r t p) b p ha m1 m2 m3 m4
          have h10 := call_et
          have hlen := call_len t
          have hroom : ((t.length + 1) * 24 ≤ 140737488355328 ∧ t.length ≤ 9223372036854775806) = True := tr (by omega)
          by_cases h0 : rootAt r p < 0
          · have e1 : root2 r t p = r.set (pgI p) t.length := if_pos h0
            have e2 : tabs2 r t p = t ++ [tab8] := if_pos h0
            simp only [mapT]
            rw [e1, e2] at n0 n1 k1 k2 k3 k4
            rw [e1, e2]
            rcases clone4 r t b s1 hb (by omega) s3 with ⟨rfl, rfl, h3⟩ | ⟨rfl, h3⟩ | ⟨rfl, ht0, h3⟩ | ⟨ht0, h3⟩
            · refine .inl ⟨rfl, ?_⟩
              have z := call_enn0 r [] [] p ha s1 s4 s3 h0
              rw [call_eq pr 21 _ _ Tryz.f21 fn_21 _ rfl _ ann_21 rfl]
              simp only [List.nil_append, List.length_nil, Int.natCast_zero] at n0 k1 k2 k3 k4 ⊢
              have k6 : ((rootAt (r.set (pgI p) 0) p).toNat < 1) = True := k2
              simp -implicitDefEqProofs only [h1, h4, h5, h6, h7, h3, hq, hm, zero_le_cast, Int.toNat_natCast, i1, i2, k1, k2, k3, k4, h10, hlen, call_len0, hroom, k6, z, n0, List.length_nil, go_sem, Nat.reduceAdd, Nat.reduceSub, Nat.reduceMul, Nat.reduceMod, Nat.reduceLT, Nat.reduceLeDiff, Nat.reduceEqDiff, Nat.reduceBEq, Nat.reduceDiv, Int.reduceLT, Int.reduceLE, Int.reduceToNat, Int.reduceNeg, Int.reduceEq, ↓reduceIte, reduceCtorEq, ↓reduceDIte]
            · refine .inr (.inl ?_)
              have z := call_enn1 r [] b p ha s1 s4 s3 h0
              rw [call_eq pr 21 _ _ Tryz.f21 fn_21 _ rfl _ ann_21 rfl]
              simp only [List.nil_append, List.length_nil, Int.natCast_zero] at n1 k1 k2 k3 k4 ⊢
              have k6 : ((rootAt (r.set (pgI p) 0) p).toNat < 1) = True := k2
              simp -implicitDefEqProofs only [h1, h4, h5, h6, h7, h3, hq, hm, zero_le_cast, Int.toNat_natCast, i1, i2, k1, k2, k3, k4, h10, hlen, call_len0, hroom, k6, z, n1, List.length_nil, go_sem, Nat.reduceAdd, Nat.reduceSub, Nat.reduceMul, Nat.reduceMod, Nat.reduceLT, Nat.reduceLeDiff, Nat.reduceEqDiff, Nat.reduceBEq, Nat.reduceDiv, Int.reduceLT, Int.reduceLE, Int.reduceToNat, Int.reduceNeg, Int.reduceEq, ↓reduceIte, reduceCtorEq, ↓reduceDIte]
            · refine .inr (.inr (.inl ⟨rfl, ?_⟩))
              have z := call_enn2 r t [] p ha s1 s4 s3 h0
              rw [call_eq pr 21 _ _ Tryz.f21 fn_21 _ rfl _ ann_21 rfl]
              simp -implicitDefEqProofs only [h1, h4, h5, h6, h7, h3, hq, hm, zero_le_cast, Int.toNat_natCast, i1, i2, k1, k2, k3, k4, h10, hlen, call_len0, hroom, z, n0, go_sem, Nat.reduceAdd, Nat.reduceSub, Nat.reduceMul, Nat.reduceMod, Nat.reduceLT, Nat.reduceLeDiff, Nat.reduceEqDiff, Nat.reduceBEq, Nat.reduceDiv, Int.reduceLT, Int.reduceLE, Int.reduceToNat, Int.reduceNeg, Int.reduceEq, ↓reduceIte, reduceCtorEq, ↓reduceDIte]
            · refine .inr (.inr (.inr ?_))
              have z := call_enn3 r t b p ha s1 s4 s3 h0
              rw [call_eq pr 21 _ _ Tryz.f21 fn_21 _ rfl _ ann_21 rfl]
              simp -implicitDefEqProofs only [h1, h4, h5, h6, h7, h3, hq, hm, zero_le_cast, Int.toNat_natCast, i1, i2, k1, k2, k3, k4, h10, hlen, call_len0, hroom, z, n1, go_sem, Nat.reduceAdd, Nat.reduceSub, Nat.reduceMul, Nat.reduceMod, Nat.reduceLT, Nat.reduceLeDiff, Nat.reduceEqDiff, Nat.reduceBEq, Nat.reduceDiv, Int.reduceLT, Int.reduceLE, Int.reduceToNat, Int.reduceNeg, Int.reduceEq, ↓reduceIte, reduceCtorEq, ↓reduceDIte]
          · have e1 : root2 r t p = r := if_neg h0
            have e2 : tabs2 r t p = t := if_neg h0
            simp only [mapT]
            rw [e1, e2] at n0 n1 k1 k2 k3 k4
            rw [e1, e2]
            have k5 : t ≠ [] := by
              rintro rfl
              obtain ⟨q1, _⟩ := root_facts s1 hi s4 s3 h0
              simp at q1
            rcases clone4 r t b s1 hb (by omega) s3 with ⟨e, _, h3⟩ | ⟨e, h3⟩ | ⟨rfl, ht0, h3⟩ | ⟨ht0, h3⟩
            · exact absurd e k5
            · exact absurd e k5
            · refine .inr (.inr (.inl ⟨rfl, ?_⟩))
              rw [call_eq pr 21 _ _ Tryz.f21 fn_21 _ rfl _ ann_21 rfl]
              simp -implicitDefEqProofs only [h1, h4, h5, h6, h7, h3, hq, hm, zero_le_cast, Int.toNat_natCast, i1, i2, k1, k2, k3, k4, h10, hlen, call_len0, hroom, n0, go_sem, Nat.reduceAdd, Nat.reduceSub, Nat.reduceMul, Nat.reduceMod, Nat.reduceLT, Nat.reduceLeDiff, Nat.reduceEqDiff, Nat.reduceBEq, Nat.reduceDiv, Int.reduceLT, Int.reduceLE, Int.reduceToNat, Int.reduceNeg, Int.reduceEq, ↓reduceIte, reduceCtorEq, ↓reduceDIte]
            · refine .inr (.inr (.inr ?_))
              rw [call_eq pr 21 _ _ Tryz.f21 fn_21 _ rfl _ ann_21 rfl]
              simp -implicitDefEqProofs only [h1, h4, h5, h6, h7, h3, hq, hm, zero_le_cast, Int.toNat_natCast, i1, i2, k1, k2, k3, k4, h10, hlen, call_len0, hroom, n1, go_sem, Nat.reduceAdd, Nat.reduceSub, Nat.reduceMul, Nat.reduceMod, Nat.reduceLT, Nat.reduceLeDiff, Nat.reduceEqDiff, Nat.reduceBEq, Nat.reduceDiv, Int.reduceLT, Int.reduceLE, Int.reduceToNat, Int.reduceNeg, Int.reduceEq, ↓reduceIte, reduceCtorEq, ↓reduceDIte]
end Go.Proofs.YticpldfkjldepaaGreat.PI
