/- Entries of pages in memory of its own. -/
import Derived.Test.YtbapbghnageckaaGreatM4
namespace Go.Proofs.YtbapbghnageckaaGreat.PI
open Go Go.Q
set_option maxRecDepth 100000
set_option maxHeartbeats 4000000
set_option linter.unusedSimpArgs false
set_option linter.unusedVariables false
attribute [local go_sem] Nat.reduceAdd Nat.reduceSub Nat.reduceMul Nat.reduceMod Nat.reduceLT Nat.reduceLeDiff Nat.reduceEqDiff Nat.reduceBEq Nat.reduceDiv Int.reduceLT Int.reduceLE Int.reduceToNat Int.reduceNeg Int.reduceEq reduceCtorEq
attribute [local go_sem ↓] reduceIte reduceDIte
theorem call_enx00 (n : Nat) (r : List Int) (t : List (List En)) (b : List Ca) (p : Int) (ha : addrB p = true) (h8 : r.length = 8) (hr : ∀ x ∈ r, -1 ≤ x ∧ x ≤ (t.length : Int) - 1) (hx : ∀ x ∈ t, x.length = 8) (h0 : rootAt r p < 0) : callOf pr 78 [.agg [.os (.t 1000000), .nilS, .empS], I p] [(1000000, .arr false false (.int .i64) r)] = some (.nilP, [(1000000, .arr false false (.int .i64) r)]) := by
 obtain ⟨hq, hm, hi, hj⟩ := page_facts ha
 have i1 : (((pgI p : Nat) : Int) < (r.length : Int)) = True := tr (by omega)
 have i2 : (pgI p < r.length) = True := tr (by omega)
 have hroot : r.getD (pgI p) 0 = rootAt r p := rfl
 rw [call_eq pr 78 _ _ Tryz.f78 fn_78 _ rfl _ ann_78 rfl]
 simp -implicitDefEqProofs only [hq, hm, zero_le_cast, Int.toNat_natCast, i1, i2, hroot, tr h0, go_sem]
theorem call_enx01 (n : Nat) (r : List Int) (t : List (List En)) (b : List Ca) (p : Int) (ha : addrB p = true) (h8 : r.length = 8) (hr : ∀ x ∈ r, -1 ≤ x ∧ x ≤ (t.length : Int) - 1) (hx : ∀ x ∈ t, x.length = 8) (h0 : rootAt r p < 0) : callOf pr 78 [.agg [.os (.t 1000000), .nilS, .os (.t 1000001)], I p] [(1000000, .arr false false (.int .i64) r), (1000001, .arr false false tyC b)] = some (.nilP, [(1000000, .arr false false (.int .i64) r), (1000001, .arr false false tyC b)]) := by
 obtain ⟨hq, hm, hi, hj⟩ := page_facts ha
 have i1 : (((pgI p : Nat) : Int) < (r.length : Int)) = True := tr (by omega)
 have i2 : (pgI p < r.length) = True := tr (by omega)
 have hroot : r.getD (pgI p) 0 = rootAt r p := rfl
 rw [call_eq pr 78 _ _ Tryz.f78 fn_78 _ rfl _ ann_78 rfl]
 simp -implicitDefEqProofs only [hq, hm, zero_le_cast, Int.toNat_natCast, i1, i2, hroot, tr h0, go_sem]
theorem call_enx10 (n : Nat) (r : List Int) (t : List (List En)) (b : List Ca) (p : Int) (ha : addrB p = true) (h8 : r.length = 8) (hr : ∀ x ∈ r, -1 ≤ x ∧ x ≤ (t.length : Int) - 1) (hx : ∀ x ∈ t, x.length = 8) (h0 : rootAt r p < 0) : callOf pr 78 [.agg [.os (.t 1000000), .os (.t 1000001), .empS], I p] [(1000000, .arr false false (.int .i64) r), (1000001, .arr false true (.slice tyE) t)] = some (.nilP, [(1000000, .arr false false (.int .i64) r), (1000001, .arr false true (.slice tyE) t)]) := by
 obtain ⟨hq, hm, hi, hj⟩ := page_facts ha
 have i1 : (((pgI p : Nat) : Int) < (r.length : Int)) = True := tr (by omega)
 have i2 : (pgI p < r.length) = True := tr (by omega)
 have hroot : r.getD (pgI p) 0 = rootAt r p := rfl
 rw [call_eq pr 78 _ _ Tryz.f78 fn_78 _ rfl _ ann_78 rfl]
 simp -implicitDefEqProofs only [hq, hm, zero_le_cast, Int.toNat_natCast, i1, i2, hroot, tr h0, go_sem]
theorem call_enx11 (n : Nat) (r : List Int) (t : List (List En)) (b : List Ca) (p : Int) (ha : addrB p = true) (h8 : r.length = 8) (hr : ∀ x ∈ r, -1 ≤ x ∧ x ≤ (t.length : Int) - 1) (hx : ∀ x ∈ t, x.length = 8) (h0 : rootAt r p < 0) : callOf pr 78 [.agg [.os (.t 1000000), .os (.t 1000001), .os (.t 1000002)], I p] [(1000000, .arr false false (.int .i64) r), (1000001, .arr false true (.slice tyE) t), (1000002, .arr false false tyC b)] = some (.nilP, [(1000000, .arr false false (.int .i64) r), (1000001, .arr false true (.slice tyE) t), (1000002, .arr false false tyC b)]) := by
 obtain ⟨hq, hm, hi, hj⟩ := page_facts ha
 have i1 : (((pgI p : Nat) : Int) < (r.length : Int)) = True := tr (by omega)
 have i2 : (pgI p < r.length) = True := tr (by omega)
 have hroot : r.getD (pgI p) 0 = rootAt r p := rfl
 rw [call_eq pr 78 _ _ Tryz.f78 fn_78 _ rfl _ ann_78 rfl]
 simp -implicitDefEqProofs only [hq, hm, zero_le_cast, Int.toNat_natCast, i1, i2, hroot, tr h0, go_sem]
theorem call_enx12 (n : Nat) (r : List Int) (t : List (List En)) (b : List Ca) (p : Int) (ha : addrB p = true) (h8 : r.length = 8) (hr : ∀ x ∈ r, -1 ≤ x ∧ x ≤ (t.length : Int) - 1) (hx : ∀ x ∈ t, x.length = 8) (h0 : rootAt r p < 0) : callOf pr 78 [.agg [.os (.t 1000000), .os (.t 1000001), .sub (.t 1000002) 0 n], I p] [(1000000, .arr false false (.int .i64) r), (1000001, .arr false true (.slice tyE) t), (1000002, .arr false false tyC b)] = some (.nilP, [(1000000, .arr false false (.int .i64) r), (1000001, .arr false true (.slice tyE) t), (1000002, .arr false false tyC b)]) := by
 obtain ⟨hq, hm, hi, hj⟩ := page_facts ha
 have i1 : (((pgI p : Nat) : Int) < (r.length : Int)) = True := tr (by omega)
 have i2 : (pgI p < r.length) = True := tr (by omega)
 have hroot : r.getD (pgI p) 0 = rootAt r p := rfl
 rw [call_eq pr 78 _ _ Tryz.f78 fn_78 _ rfl _ ann_78 rfl]
 simp -implicitDefEqProofs only [hq, hm, zero_le_cast, Int.toNat_natCast, i1, i2, hroot, tr h0, go_sem]
theorem call_enw10 (n : Nat) (r : List Int) (t : List (List En)) (b : List Ca) (p : Int) (ha : addrB p = true) (h8 : r.length = 8) (hr : ∀ x ∈ r, -1 ≤ x ∧ x ≤ (t.length : Int) - 1) (hx : ∀ x ∈ t, x.length = 8) (h0 : ¬ rootAt r p < 0) : callOf pr 78 [.agg [.os (.t 1000000), .os (.t 1000001), .empS], I p] [(1000000, .arr false false (.int .i64) r), (1000001, .arr false true (.slice tyE) t)] = some (.el (.n 1000001 (rootAt r p).toNat 0) (pgJ p) 0, [(1000000, .arr false false (.int .i64) r), (1000001, .arr false true (.slice tyE) t)]) := by
 obtain ⟨hq, hm, hi, hj⟩ := page_facts ha
 have i1 : (((pgI p : Nat) : Int) < (r.length : Int)) = True := tr (by omega)
 have i2 : (pgI p < r.length) = True := tr (by omega)
 have hroot : r.getD (pgI p) 0 = rootAt r p := rfl
 obtain ⟨g1, g2, g3⟩ := root_facts h8 hi hr hx h0
 have j0 : (0 ≤ rootAt r p) = True := tr (by omega)
 have j1 : (rootAt r p < (t.length : Int)) = True := tr (by omega)
 have j2 : (((pgJ p : Nat) : Int) < ((rowAt r t p).length : Int)) = True := tr (by omega)
 have j3 : ((rootAt r p).toNat < t.length) = True := tr g1
 have hrow : t.getD (rootAt r p).toNat [] = rowAt r t p := rfl
 rw [call_eq pr 78 _ _ Tryz.f78 fn_78 _ rfl _ ann_78 rfl]
 simp -implicitDefEqProofs only [hq, hm, zero_le_cast, Int.toNat_natCast, i1, i2, hroot, fa h0, j0, j1, j2, j3, hrow, go_sem]
theorem call_mpo10 (n : Nat) (r : List Int) (t : List (List En)) (b : List Ca) (p : Int) (ha : addrB p = true) (h8 : r.length = 8) (hr : ∀ x ∈ r, -1 ≤ x ∧ x ≤ (t.length : Int) - 1) (hx : ∀ x ∈ t, x.length = 8) : callOf pr 71 [.agg [.os (.t 1000000), .os (.t 1000001), .empS], I p] [(1000000, .arr false false (.int .i64) r), (1000001, .arr false true (.slice tyE) t)] = some (if (walkS r t p).1 < 0 then .nilP else .el (.n 1000001 (rootAt r p).toNat 0) (pgJ p) 0, [(1000000, .arr false false (.int .i64) r), (1000001, .arr false true (.slice tyE) t)]) := by
 rw [call_eq pr 71 _ _ Tryz.f71 fn_71 _ rfl _ ann_71 rfl]
 by_cases h0 : rootAt r p < 0
 ·have e : walkS r t p = emptyEn := if_pos h0
  have h1 := call_enx10 n r t b p ha h8 hr hx h0
  rw [if_pos (by rw [e]; decide)]
  simp -implicitDefEqProofs only [h1, go_sem]
 ·have h1 := call_enw10 n r t b p ha h8 hr hx h0
  obtain ⟨hq, hm, hi, hj⟩ := page_facts ha
  obtain ⟨g1, g2, g3⟩ := root_facts h8 hi hr hx h0
  have k1 : (pgJ p < (rowAt r t p).length) = True := tr (by omega)
  have k2 : ((rootAt r p).toNat < t.length) = True := tr g1
  have k3 : t.getD (rootAt r p).toNat [] = rowAt r t p := rfl
  have k4 := walk_row (r := r) (t := t) (p := p) h0
  by_cases h2 : (walkS r t p).1 < 0
  ·rw [if_pos h2]
   simp -implicitDefEqProofs only [h1, k1, k2, k3, k4, tr h2, go_sem]
  ·rw [if_neg h2]
   simp -implicitDefEqProofs only [h1, k1, k2, k3, k4, fa h2, go_sem]
theorem call_enw11 (n : Nat) (r : List Int) (t : List (List En)) (b : List Ca) (p : Int) (ha : addrB p = true) (h8 : r.length = 8) (hr : ∀ x ∈ r, -1 ≤ x ∧ x ≤ (t.length : Int) - 1) (hx : ∀ x ∈ t, x.length = 8) (h0 : ¬ rootAt r p < 0) : callOf pr 78 [.agg [.os (.t 1000000), .os (.t 1000001), .os (.t 1000002)], I p] [(1000000, .arr false false (.int .i64) r), (1000001, .arr false true (.slice tyE) t), (1000002, .arr false false tyC b)] = some (.el (.n 1000001 (rootAt r p).toNat 0) (pgJ p) 0, [(1000000, .arr false false (.int .i64) r), (1000001, .arr false true (.slice tyE) t), (1000002, .arr false false tyC b)]) := by
 obtain ⟨hq, hm, hi, hj⟩ := page_facts ha
 have i1 : (((pgI p : Nat) : Int) < (r.length : Int)) = True := tr (by omega)
 have i2 : (pgI p < r.length) = True := tr (by omega)
 have hroot : r.getD (pgI p) 0 = rootAt r p := rfl
 obtain ⟨g1, g2, g3⟩ := root_facts h8 hi hr hx h0
 have j0 : (0 ≤ rootAt r p) = True := tr (by omega)
 have j1 : (rootAt r p < (t.length : Int)) = True := tr (by omega)
 have j2 : (((pgJ p : Nat) : Int) < ((rowAt r t p).length : Int)) = True := tr (by omega)
 have j3 : ((rootAt r p).toNat < t.length) = True := tr g1
 have hrow : t.getD (rootAt r p).toNat [] = rowAt r t p := rfl
 rw [call_eq pr 78 _ _ Tryz.f78 fn_78 _ rfl _ ann_78 rfl]
 simp -implicitDefEqProofs only [hq, hm, zero_le_cast, Int.toNat_natCast, i1, i2, hroot, fa h0, j0, j1, j2, j3, hrow, go_sem]
theorem call_mpo11 (n : Nat) (r : List Int) (t : List (List En)) (b : List Ca) (p : Int) (ha : addrB p = true) (h8 : r.length = 8) (hr : ∀ x ∈ r, -1 ≤ x ∧ x ≤ (t.length : Int) - 1) (hx : ∀ x ∈ t, x.length = 8) : callOf pr 71 [.agg [.os (.t 1000000), .os (.t 1000001), .os (.t 1000002)], I p] [(1000000, .arr false false (.int .i64) r), (1000001, .arr false true (.slice tyE) t), (1000002, .arr false false tyC b)] = some (if (walkS r t p).1 < 0 then .nilP else .el (.n 1000001 (rootAt r p).toNat 0) (pgJ p) 0, [(1000000, .arr false false (.int .i64) r), (1000001, .arr false true (.slice tyE) t), (1000002, .arr false false tyC b)]) := by
 rw [call_eq pr 71 _ _ Tryz.f71 fn_71 _ rfl _ ann_71 rfl]
 by_cases h0 : rootAt r p < 0
 ·have e : walkS r t p = emptyEn := if_pos h0
  have h1 := call_enx11 n r t b p ha h8 hr hx h0
  rw [if_pos (by rw [e]; decide)]
  simp -implicitDefEqProofs only [h1, go_sem]
 ·have h1 := call_enw11 n r t b p ha h8 hr hx h0
  obtain ⟨hq, hm, hi, hj⟩ := page_facts ha
  obtain ⟨g1, g2, g3⟩ := root_facts h8 hi hr hx h0
  have k1 : (pgJ p < (rowAt r t p).length) = True := tr (by omega)
  have k2 : ((rootAt r p).toNat < t.length) = True := tr g1
  have k3 : t.getD (rootAt r p).toNat [] = rowAt r t p := rfl
  have k4 := walk_row (r := r) (t := t) (p := p) h0
  by_cases h2 : (walkS r t p).1 < 0
  ·rw [if_pos h2]
   simp -implicitDefEqProofs only [h1, k1, k2, k3, k4, tr h2, go_sem]
  ·rw [if_neg h2]
   simp -implicitDefEqProofs only [h1, k1, k2, k3, k4, fa h2, go_sem]
theorem call_enw12 (n : Nat) (r : List Int) (t : List (List En)) (b : List Ca) (p : Int) (ha : addrB p = true) (h8 : r.length = 8) (hr : ∀ x ∈ r, -1 ≤ x ∧ x ≤ (t.length : Int) - 1) (hx : ∀ x ∈ t, x.length = 8) (h0 : ¬ rootAt r p < 0) : callOf pr 78 [.agg [.os (.t 1000000), .os (.t 1000001), .sub (.t 1000002) 0 n], I p] [(1000000, .arr false false (.int .i64) r), (1000001, .arr false true (.slice tyE) t), (1000002, .arr false false tyC b)] = some (.el (.n 1000001 (rootAt r p).toNat 0) (pgJ p) 0, [(1000000, .arr false false (.int .i64) r), (1000001, .arr false true (.slice tyE) t), (1000002, .arr false false tyC b)]) := by
 obtain ⟨hq, hm, hi, hj⟩ := page_facts ha
 have i1 : (((pgI p : Nat) : Int) < (r.length : Int)) = True := tr (by omega)
 have i2 : (pgI p < r.length) = True := tr (by omega)
 have hroot : r.getD (pgI p) 0 = rootAt r p := rfl
 obtain ⟨g1, g2, g3⟩ := root_facts h8 hi hr hx h0
 have j0 : (0 ≤ rootAt r p) = True := tr (by omega)
 have j1 : (rootAt r p < (t.length : Int)) = True := tr (by omega)
 have j2 : (((pgJ p : Nat) : Int) < ((rowAt r t p).length : Int)) = True := tr (by omega)
 have j3 : ((rootAt r p).toNat < t.length) = True := tr g1
 have hrow : t.getD (rootAt r p).toNat [] = rowAt r t p := rfl
 rw [call_eq pr 78 _ _ Tryz.f78 fn_78 _ rfl _ ann_78 rfl]
 simp -implicitDefEqProofs only [hq, hm, zero_le_cast, Int.toNat_natCast, i1, i2, hroot, fa h0, j0, j1, j2, j3, hrow, go_sem]
theorem call_mpo12 (n : Nat) (r : List Int) (t : List (List En)) (b : List Ca) (p : Int) (ha : addrB p = true) (h8 : r.length = 8) (hr : ∀ x ∈ r, -1 ≤ x ∧ x ≤ (t.length : Int) - 1) (hx : ∀ x ∈ t, x.length = 8) : callOf pr 71 [.agg [.os (.t 1000000), .os (.t 1000001), .sub (.t 1000002) 0 n], I p] [(1000000, .arr false false (.int .i64) r), (1000001, .arr false true (.slice tyE) t), (1000002, .arr false false tyC b)] = some (if (walkS r t p).1 < 0 then .nilP else .el (.n 1000001 (rootAt r p).toNat 0) (pgJ p) 0, [(1000000, .arr false false (.int .i64) r), (1000001, .arr false true (.slice tyE) t), (1000002, .arr false false tyC b)]) := by
 rw [call_eq pr 71 _ _ Tryz.f71 fn_71 _ rfl _ ann_71 rfl]
 by_cases h0 : rootAt r p < 0
 ·have e : walkS r t p = emptyEn := if_pos h0
  have h1 := call_enx12 n r t b p ha h8 hr hx h0
  rw [if_pos (by rw [e]; decide)]
  simp -implicitDefEqProofs only [h1, go_sem]
 ·have h1 := call_enw12 n r t b p ha h8 hr hx h0
  obtain ⟨hq, hm, hi, hj⟩ := page_facts ha
  obtain ⟨g1, g2, g3⟩ := root_facts h8 hi hr hx h0
  have k1 : (pgJ p < (rowAt r t p).length) = True := tr (by omega)
  have k2 : ((rootAt r p).toNat < t.length) = True := tr g1
  have k3 : t.getD (rootAt r p).toNat [] = rowAt r t p := rfl
  have k4 := walk_row (r := r) (t := t) (p := p) h0
  by_cases h2 : (walkS r t p).1 < 0
  ·rw [if_pos h2]
   simp -implicitDefEqProofs only [h1, k1, k2, k3, k4, tr h2, go_sem]
  ·rw [if_neg h2]
   simp -implicitDefEqProofs only [h1, k1, k2, k3, k4, fa h2, go_sem]
theorem call_mpo00 (n : Nat) (r : List Int) (b : List Ca) (p : Int) (ha : addrB p = true) (h8 : r.length = 8) (hr : ∀ x ∈ r, -1 ≤ x ∧ x ≤ -1) : callOf pr 71 [.agg [.os (.t 1000000), .nilS, .empS], I p] [(1000000, .arr false false (.int .i64) r)] = some (.nilP, [(1000000, .arr false false (.int .i64) r)]) := by
 have h0 : rootAt r p < 0 := by
  obtain ⟨hq, hm, hi, hj⟩ := page_facts ha
  have hm : rootAt r p ∈ r := by
   have : rootAt r p = r[pgI p]'(by omega) := by simp [rootAt, List.getD, List.getElem?_eq_getElem (show pgI p < r.length by omega)]
   rw [this]; exact List.getElem_mem _
  have := hr _ hm
  omega
 have h1 := call_enx00 n r [] b p ha h8 (by simpa using hr) (by simp) h0
 rw [call_eq pr 71 _ _ Tryz.f71 fn_71 _ rfl _ ann_71 rfl]
 simp -implicitDefEqProofs only [h1, go_sem]
theorem call_mpo01 (n : Nat) (r : List Int) (b : List Ca) (p : Int) (ha : addrB p = true) (h8 : r.length = 8) (hr : ∀ x ∈ r, -1 ≤ x ∧ x ≤ -1) : callOf pr 71 [.agg [.os (.t 1000000), .nilS, .os (.t 1000001)], I p] [(1000000, .arr false false (.int .i64) r), (1000001, .arr false false tyC b)] = some (.nilP, [(1000000, .arr false false (.int .i64) r), (1000001, .arr false false tyC b)]) := by
 have h0 : rootAt r p < 0 := by
  obtain ⟨hq, hm, hi, hj⟩ := page_facts ha
  have hm : rootAt r p ∈ r := by
   have : rootAt r p = r[pgI p]'(by omega) := by simp [rootAt, List.getD, List.getElem?_eq_getElem (show pgI p < r.length by omega)]
   rw [this]; exact List.getElem_mem _
  have := hr _ hm
  omega
 have h1 := call_enx01 n r [] b p ha h8 (by simpa using hr) (by simp) h0
 rw [call_eq pr 71 _ _ Tryz.f71 fn_71 _ rfl _ ann_71 rfl]
 simp -implicitDefEqProofs only [h1, go_sem]
theorem call_ixce (p : Int) : callOf pr 127 [.empS, .fn 134 [.rp [I p]]] [] = some (I (-1), []) := by
 have h : loopOf pr 127 0 ⟨[(0, .empS), (1, .fn 134 [.rp [I p]]), (7, I 0), (8, I 0)], []⟩ = some (.exit 0, ⟨[(0, .empS), (1, .fn 134 [.rp [I p]]), (7, I 0), (8, I 0)], []⟩) := by
  rw [loop_eq pr 127 0 _ Tryz.f127 fn_127 _ rfl _ ann_127 _ rfl]
  simp -implicitDefEqProofs only [Int.lt_irrefl, go_sem]
 rw [call_eq pr 127 _ _ Tryz.f127 fn_127 _ rfl _ ann_127 rfl]
 simp -implicitDefEqProofs only [h, go_sem]
theorem call_bpe (p : Int) : callOf pr 104 [.empS, I p] [] = some (I (-1), []) := by
 rw [call_eq pr 104 _ _ Tryz.f104 fn_104 _ rfl _ ann_104 rfl]
 simp -implicitDefEqProofs only [call_ixce, go_sem]
abbrev zC : Ca := (0, 0, false, ())
abbrev zE : En := (0, false, false, false, ())
def usedE (e : En) (w : Bool) : En := (e.1, e.2.1, true, e.2.2.2.1 || w, ())
def usedT (r : List Int) (t : List (List En)) (p : Int) (w : Bool) : List (List En) := if (walkS r t p).1 < 0 then t else putT r t p (usedE (walkS r t p) w)
theorem getD_set_self {α : Type} (l : List α) (i : Nat) (h : i < l.length) (x d : α) : (l.set i x).getD i d = x := by simp [List.getD, h]
theorem set_twice {α : Type} (l : List α) (i : Nat) (x y : α) : (l.set i x).set i y = l.set i y := List.set_set ..
theorem walk_neg {r : List Int} {p : Int} (ha : addrB p = true) (h8 : r.length = 8) (hr : ∀ x ∈ r, -1 ≤ x ∧ x ≤ -1) (t : List (List En)) : walkS r t p = emptyEn := by
 refine if_pos ?_
 obtain ⟨hq, hm, hi, hj⟩ := page_facts ha
 have hm : rootAt r p ∈ r := by
  have : rootAt r p = r[pgI p]'(by omega) := by simp [rootAt, List.getD, List.getElem?_eq_getElem (show pgI p < r.length by omega)]
  rw [this]; exact List.getElem_mem _
 have := hr _ hm
 omega
theorem usedT_nil {r : List Int} {p : Int} (ha : addrB p = true) (h8 : r.length = 8) (hr : ∀ x ∈ r, -1 ≤ x ∧ x ≤ -1) (w : Bool) : usedT r [] p w = [] := by
 rw [usedT, walk_neg ha h8 hr]; rfl
theorem walk_pos {r : List Int} {t : List (List En)} {p : Int} (he : ¬ (walkS r t p).1 < 0) : ¬ rootAt r p < 0 := by
 intro h0
 apply he
 rw [show walkS r t p = emptyEn from if_pos h0]
 decide
theorem call_hit11 (k : Int) (i : Nat) (q f : Int) (cw : Bool) (r : List Int) (t : List (List En)) (b bs : List Ca) (p : Int) (ha : addrB p = true) (h8 : r.length = 8) (hr : ∀ x ∈ r, -1 ≤ x ∧ x ≤ (t.length : Int) - 1) (hx : ∀ x ∈ t, x.length = 8) (hbs : b = bs) (hb : b.length ≤ 4) (hf : findP b p = (i : Int)) (hi : i < b.length) (hc : b.getD i zC = (q, f, cw, ())) :
  callOf pr 52 [.op 1000000 0, .agg [I k, I p]] [(1000000, .box [.os (.t 1000001), .os (.t 1000002), .os (.t 1000003)]), (1000001, .arr false false (.int .i64) r), (1000002, .arr false true (.slice tyE) t), (1000003, .arr false false tyC bs)] =
   if (decide (k = 1) && !cw) = true then some (.tuple [I 3, I (-1)], [(1000000, .box [.os (.t 1000001), .os (.t 1000002), .os (.t 1000003)]), (1000001, .arr false false (.int .i64) r), (1000002, .arr false true (.slice tyE) t), (1000003, .arr true false tyC ((q, f, cw, ()) :: b.eraseIdx i))])
   else some (.tuple [I 0, I f], [(1000000, .box [.os (.t 1000001), .os (.t 1000002), .os (.t 1000003)]), (1000001, .arr false false (.int .i64) r), (1000002, .arr false true (.slice tyE) (usedT r t p (decide (k = 1)))), (1000003, .arr true false tyC ((q, f, cw, ()) :: b.eraseIdx i))]) := by
 subst hbs
 skip
 have hbz : (b.length ≤ b.length) = True := tr (Nat.le_refl _)
 have h1 := call_mpo11 b.length r t b p ha h8 hr hx
 have h2 := call_bp b p (by omega)
 rw [hf] at h2
 have d1 := call_delos (m := false) (ys := b) (i := (i : Int)) (by omega) (by omega)
 skip
 have d2 := call_insos (m := false) (m1 := false) (x := (q, f, cw, ())) (ys := b.eraseIdx i) (by have := List.length_eraseIdx_le b i; omega)
 have hge : (0 ≤ (i : Int)) = True := tr (by omega)
 have hlt : (i < b.length) = True := tr hi
 have hlt' : ((i : Int) < (b.length : Int)) = True := tr (by omega)
 have hwr : IntKind.i64.wrap ((i : Int) + 1) = (i : Int) + 1 := by rw [wrap_i] <;> omega
 by_cases he : (walkS r t p).1 < 0
 ·rw [if_pos he] at h1
  have hu : ∀ w, usedT r t p w = t := fun w => if_pos he
  rw [hu, call_eq pr 52 _ _ Tryz.f52 fn_52 _ rfl _ ann_52 rfl]
  by_cases hk : k = 1
  ·subst hk
   cases cw with
   | false => simp -implicitDefEqProofs only [h1, h2, hge, ge_iff_le, hlt, hlt', zero_le_cast, Int.toNat_natCast, hwr, d1, d2, hc, go_sem] <;> rfl
   | true => simp -implicitDefEqProofs only [h1, h2, hge, ge_iff_le, hlt, hlt', zero_le_cast, Int.toNat_natCast, hwr, d1, d2, hc, go_sem] <;> rfl
  ·have hk' : (k == 1) = false := by simp [hk]
   have hk2 : decide (k = 1) = false := by simp [hk]
   rw [hk2]
   simp -implicitDefEqProofs only [h1, h2, hge, ge_iff_le, hlt, hlt', zero_le_cast, Int.toNat_natCast, hwr, d1, d2, hc, fa hk, hk', go_sem] <;> rfl
 ·rw [if_neg he] at h1
  have h0 := walk_pos he
  obtain ⟨hq, hm, hpi, hpj⟩ := page_facts ha
  obtain ⟨g1, g2, g3⟩ := root_facts h8 hpi hr hx h0
  have k2 : ((rootAt r p).toNat < t.length) = True := tr g1
  have k3 : t.getD (rootAt r p).toNat [] = rowAt r t p := rfl
  obtain ⟨⟨ef, ew, eu, ed, ⟨⟩⟩, hE⟩ : ∃ e, walkS r t p = e := ⟨_, rfl⟩
  have k4 : (rowAt r t p).getD (pgJ p) zE = (ef, ew, eu, ed, ()) := by rw [← hE]; exact walk_row (r := r) (t := t) (p := p) h0
  have s3 : ∀ X : List En, (t.set (rootAt r p).toNat X).getD (rootAt r p).toNat [] = X := fun X => getD_set_self t _ g1 X []
  have s4 : ∀ e : En, ((rowAt r t p).set (pgJ p) e).getD (pgJ p) zE = e := fun e => getD_set_self _ _ (by omega) e _
  have hu : ∀ w, usedT r t p w = t.set (rootAt r p).toNat ((rowAt r t p).set (pgJ p) (ef, ew, true, ed || w, ())) := fun w => by
   rw [usedT, if_neg he, hE]; rfl
  rw [hu, call_eq pr 52 _ _ Tryz.f52 fn_52 _ rfl _ ann_52 rfl]
  by_cases hk : k = 1
  ·subst hk
   cases cw with
   | false => simp -implicitDefEqProofs only [h1, h2, hge, ge_iff_le, hlt, hlt', zero_le_cast, Int.toNat_natCast, hwr, d1, d2, hc, go_sem] <;> rfl
   | true => cases ed <;> simp -implicitDefEqProofs only [h1, h2, hge, ge_iff_le, hlt, hlt', zero_le_cast, Int.toNat_natCast, hwr, d1, d2, hc, k2, k3, k4, s3, s4, List.length_set, set_twice, go_sem] <;> rfl
  ·have hk' : (k == 1) = false := by simp [hk]
   have hk2 : decide (k = 1) = false := by simp [hk]
   rw [hk2]
   cases ed <;> simp -implicitDefEqProofs only [h1, h2, hge, ge_iff_le, hlt, hlt', zero_le_cast, Int.toNat_natCast, hwr, d1, d2, hc, fa hk, hk', k2, k3, k4, s3, s4, List.length_set, set_twice, go_sem] <;> rfl
theorem call_hit12 (k : Int) (i : Nat) (q f : Int) (cw : Bool) (r : List Int) (t : List (List En)) (b bs : List Ca) (p : Int) (ha : addrB p = true) (h8 : r.length = 8) (hr : ∀ x ∈ r, -1 ≤ x ∧ x ≤ (t.length : Int) - 1) (hx : ∀ x ∈ t, x.length = 8) (hbs : bs.take b.length = b) (hb : b.length ≤ 4) (hf : findP b p = (i : Int)) (hi : i < b.length) (hc : b.getD i zC = (q, f, cw, ())) :
  callOf pr 52 [.op 1000000 0, .agg [I k, I p]] [(1000000, .box [.os (.t 1000001), .os (.t 1000002), .sub (.t 1000003) 0 b.length]), (1000001, .arr false false (.int .i64) r), (1000002, .arr false true (.slice tyE) t), (1000003, .arr false false tyC bs)] =
   if (decide (k = 1) && !cw) = true then some (.tuple [I 3, I (-1)], [(1000000, .box [.os (.t 1000001), .os (.t 1000002), .os (.t 1000003)]), (1000001, .arr false false (.int .i64) r), (1000002, .arr false true (.slice tyE) t), (1000003, .arr true false tyC ((q, f, cw, ()) :: b.eraseIdx i))])
   else some (.tuple [I 0, I f], [(1000000, .box [.os (.t 1000001), .os (.t 1000002), .os (.t 1000003)]), (1000001, .arr false false (.int .i64) r), (1000002, .arr false true (.slice tyE) (usedT r t p (decide (k = 1)))), (1000003, .arr true false tyC ((q, f, cw, ()) :: b.eraseIdx i))]) := by
 have hbl : b.length ≤ bs.length := by { have := congrArg List.length hbs; rw [List.length_take] at this; omega }
 have hc2 : bs.getD (0 + i) zC = (q, f, cw, ()) := by { rw [Nat.zero_add, ← hc, ← hbs]; simp only [List.getD, List.getElem?_take, if_pos hi] }
 have hbz : (b.length ≤ b.length) = True := tr (Nat.le_refl _)
 have h1 := call_mpo12 b.length r t bs p ha h8 hr hx
 have h2 := call_bp b p (by omega)
 rw [hf] at h2
 have d1 := call_delsub (m := false) (ys := bs) (n := b.length) (i := (i : Int)) (by omega) (by omega) (by omega)
 rw [hbs] at d1
 have d2 := call_insos (m := false) (m1 := false) (x := (q, f, cw, ())) (ys := b.eraseIdx i) (by have := List.length_eraseIdx_le b i; omega)
 have hge : (0 ≤ (i : Int)) = True := tr (by omega)
 have hlt : (i < b.length) = True := tr hi
 have hlt' : ((i : Int) < (b.length : Int)) = True := tr (by omega)
 have hwr : IntKind.i64.wrap ((i : Int) + 1) = (i : Int) + 1 := by rw [wrap_i] <;> omega
 by_cases he : (walkS r t p).1 < 0
 ·rw [if_pos he] at h1
  have hu : ∀ w, usedT r t p w = t := fun w => if_pos he
  rw [hu, call_eq pr 52 _ _ Tryz.f52 fn_52 _ rfl _ ann_52 rfl]
  by_cases hk : k = 1
  ·subst hk
   cases cw with
   | false => simp -implicitDefEqProofs only [h1, hc2, hbs, tr hbl, hbz, Nat.sub_zero, List.drop_zero, h2, hge, ge_iff_le, hlt, hlt', zero_le_cast, Int.toNat_natCast, hwr, d1, d2, hc, go_sem] <;> rfl
   | true => simp -implicitDefEqProofs only [h1, hc2, hbs, tr hbl, hbz, Nat.sub_zero, List.drop_zero, h2, hge, ge_iff_le, hlt, hlt', zero_le_cast, Int.toNat_natCast, hwr, d1, d2, hc, go_sem] <;> rfl
  ·have hk' : (k == 1) = false := by simp [hk]
   have hk2 : decide (k = 1) = false := by simp [hk]
   rw [hk2]
   simp -implicitDefEqProofs only [h1, hc2, hbs, tr hbl, hbz, Nat.sub_zero, List.drop_zero, h2, hge, ge_iff_le, hlt, hlt', zero_le_cast, Int.toNat_natCast, hwr, d1, d2, hc, fa hk, hk', go_sem] <;> rfl
 ·rw [if_neg he] at h1
  have h0 := walk_pos he
  obtain ⟨hq, hm, hpi, hpj⟩ := page_facts ha
  obtain ⟨g1, g2, g3⟩ := root_facts h8 hpi hr hx h0
  have k2 : ((rootAt r p).toNat < t.length) = True := tr g1
  have k3 : t.getD (rootAt r p).toNat [] = rowAt r t p := rfl
  obtain ⟨⟨ef, ew, eu, ed, ⟨⟩⟩, hE⟩ : ∃ e, walkS r t p = e := ⟨_, rfl⟩
  have k4 : (rowAt r t p).getD (pgJ p) zE = (ef, ew, eu, ed, ()) := by rw [← hE]; exact walk_row (r := r) (t := t) (p := p) h0
  have s3 : ∀ X : List En, (t.set (rootAt r p).toNat X).getD (rootAt r p).toNat [] = X := fun X => getD_set_self t _ g1 X []
  have s4 : ∀ e : En, ((rowAt r t p).set (pgJ p) e).getD (pgJ p) zE = e := fun e => getD_set_self _ _ (by omega) e _
  have hu : ∀ w, usedT r t p w = t.set (rootAt r p).toNat ((rowAt r t p).set (pgJ p) (ef, ew, true, ed || w, ())) := fun w => by
   rw [usedT, if_neg he, hE]; rfl
  rw [hu, call_eq pr 52 _ _ Tryz.f52 fn_52 _ rfl _ ann_52 rfl]
  by_cases hk : k = 1
  ·subst hk
   cases cw with
   | false => simp -implicitDefEqProofs only [h1, hc2, hbs, tr hbl, hbz, Nat.sub_zero, List.drop_zero, h2, hge, ge_iff_le, hlt, hlt', zero_le_cast, Int.toNat_natCast, hwr, d1, d2, hc, go_sem] <;> rfl
   | true => cases ed <;> simp -implicitDefEqProofs only [h1, hc2, hbs, tr hbl, hbz, Nat.sub_zero, List.drop_zero, h2, hge, ge_iff_le, hlt, hlt', zero_le_cast, Int.toNat_natCast, hwr, d1, d2, hc, k2, k3, k4, s3, s4, List.length_set, set_twice, go_sem] <;> rfl
  ·have hk' : (k == 1) = false := by simp [hk]
   have hk2 : decide (k = 1) = false := by simp [hk]
   rw [hk2]
   cases ed <;> simp -implicitDefEqProofs only [h1, hc2, hbs, tr hbl, hbz, Nat.sub_zero, List.drop_zero, h2, hge, ge_iff_le, hlt, hlt', zero_le_cast, Int.toNat_natCast, hwr, d1, d2, hc, fa hk, hk', k2, k3, k4, s3, s4, List.length_set, set_twice, go_sem] <;> rfl
theorem call_hit01 (k : Int) (i : Nat) (q f : Int) (cw : Bool) (r : List Int) (b bs : List Ca) (p : Int) (ha : addrB p = true) (h8 : r.length = 8) (hr : ∀ x ∈ r, -1 ≤ x ∧ x ≤ -1) (hbs : b = bs) (hb : b.length ≤ 4) (hf : findP b p = (i : Int)) (hi : i < b.length) (hc : b.getD i zC = (q, f, cw, ())) :
  callOf pr 52 [.op 1000000 0, .agg [I k, I p]] [(1000000, .box [.os (.t 1000001), .nilS, .os (.t 1000002)]), (1000001, .arr false false (.int .i64) r), (1000002, .arr false false tyC bs)] =
   if (decide (k = 1) && !cw) = true then some (.tuple [I 3, I (-1)], [(1000000, .box [.os (.t 1000001), .nilS, .os (.t 1000002)]), (1000001, .arr false false (.int .i64) r), (1000002, .arr true false tyC ((q, f, cw, ()) :: b.eraseIdx i))])
   else some (.tuple [I 0, I f], [(1000000, .box [.os (.t 1000001), .nilS, .os (.t 1000002)]), (1000001, .arr false false (.int .i64) r), (1000002, .arr true false tyC ((q, f, cw, ()) :: b.eraseIdx i))]) := by
 subst hbs
 skip
 have hbz : (b.length ≤ b.length) = True := tr (Nat.le_refl _)
 have h1 := call_mpo01 b.length r b p ha h8 hr
 have h2 := call_bp b p (by omega)
 rw [hf] at h2
 have d1 := call_delos (m := false) (ys := b) (i := (i : Int)) (by omega) (by omega)
 skip
 have d2 := call_insos (m := false) (m1 := false) (x := (q, f, cw, ())) (ys := b.eraseIdx i) (by have := List.length_eraseIdx_le b i; omega)
 have hge : (0 ≤ (i : Int)) = True := tr (by omega)
 have hlt : (i < b.length) = True := tr hi
 have hlt' : ((i : Int) < (b.length : Int)) = True := tr (by omega)
 have hwr : IntKind.i64.wrap ((i : Int) + 1) = (i : Int) + 1 := by rw [wrap_i] <;> omega
 rw [call_eq pr 52 _ _ Tryz.f52 fn_52 _ rfl _ ann_52 rfl]
 by_cases hk : k = 1
 ·subst hk
  cases cw with
  | false => simp -implicitDefEqProofs only [h1, h2, hge, ge_iff_le, hlt, hlt', zero_le_cast, Int.toNat_natCast, hwr, d1, d2, hc, go_sem] <;> rfl
  | true => simp -implicitDefEqProofs only [h1, h2, hge, ge_iff_le, hlt, hlt', zero_le_cast, Int.toNat_natCast, hwr, d1, d2, hc, go_sem] <;> rfl
 ·have hk2 : decide (k = 1) = false := by simp [hk]
  rw [hk2]
  simp -implicitDefEqProofs only [h1, h2, hge, ge_iff_le, hlt, hlt', zero_le_cast, Int.toNat_natCast, hwr, d1, d2, hc, fa hk, go_sem] <;> rfl
theorem call_none00 (k : Int) (r : List Int) (b bs : List Ca) (p : Int) (ha : addrB p = true) (h8 : r.length = 8) (hr : ∀ x ∈ r, -1 ≤ x ∧ x ≤ -1) (hbs : b = []) (hb : b.length ≤ 4) (hf : findP b p = -1) :
  callOf pr 52 [.op 1000000 0, .agg [I k, I p]] [(1000000, .box [.os (.t 1000001), .nilS, .empS]), (1000001, .arr false false (.int .i64) r)] =
   some (.tuple [I 2, I (-1)], [(1000000, .box [.os (.t 1000001), .nilS, .empS]), (1000001, .arr false false (.int .i64) r)]) := by
 subst hbs
 have h1 := call_mpo00 0 r [] p ha h8 hr
 have h2 := call_bpe p
 rw [call_eq pr 52 _ _ Tryz.f52 fn_52 _ rfl _ ann_52 rfl]
 simp -implicitDefEqProofs only [h1, h2, go_sem]
theorem call_none01 (k : Int) (r : List Int) (b bs : List Ca) (p : Int) (ha : addrB p = true) (h8 : r.length = 8) (hr : ∀ x ∈ r, -1 ≤ x ∧ x ≤ -1) (hbs : b = bs) (hb : b.length ≤ 4) (hf : findP b p = -1) :
  callOf pr 52 [.op 1000000 0, .agg [I k, I p]] [(1000000, .box [.os (.t 1000001), .nilS, .os (.t 1000002)]), (1000001, .arr false false (.int .i64) r), (1000002, .arr false false tyC bs)] =
   some (.tuple [I 2, I (-1)], [(1000000, .box [.os (.t 1000001), .nilS, .os (.t 1000002)]), (1000001, .arr false false (.int .i64) r), (1000002, .arr false false tyC bs)]) := by
 subst hbs
 have h1 := call_mpo01 b.length r b p ha h8 hr
 have h2 := call_bp b p (by omega); rw [hf] at h2
 rw [call_eq pr 52 _ _ Tryz.f52 fn_52 _ rfl _ ann_52 rfl]
 simp -implicitDefEqProofs only [h1, h2, go_sem]
theorem call_none10 (k : Int) (r : List Int) (t : List (List En)) (b bs : List Ca) (p : Int) (ha : addrB p = true) (h8 : r.length = 8) (hr : ∀ x ∈ r, -1 ≤ x ∧ x ≤ (t.length : Int) - 1) (hx : ∀ x ∈ t, x.length = 8) (hbs : b = []) (hb : b.length ≤ 4) (hf : findP b p = -1) (he : (walkS r t p).1 < 0) :
  callOf pr 52 [.op 1000000 0, .agg [I k, I p]] [(1000000, .box [.os (.t 1000001), .os (.t 1000002), .empS]), (1000001, .arr false false (.int .i64) r), (1000002, .arr false true (.slice tyE) t)] =
   some (.tuple [I 2, I (-1)], [(1000000, .box [.os (.t 1000001), .os (.t 1000002), .empS]), (1000001, .arr false false (.int .i64) r), (1000002, .arr false true (.slice tyE) t)]) := by
 subst hbs
 have h1 := call_mpo10 0 r t [] p ha h8 hr hx
 rw [if_pos he] at h1
 have h2 := call_bpe p
 rw [call_eq pr 52 _ _ Tryz.f52 fn_52 _ rfl _ ann_52 rfl]
 simp -implicitDefEqProofs only [h1, h2, go_sem]
theorem call_deny10 (r : List Int) (t : List (List En)) (b bs : List Ca) (p : Int) (ha : addrB p = true) (h8 : r.length = 8) (hr : ∀ x ∈ r, -1 ≤ x ∧ x ≤ (t.length : Int) - 1) (hx : ∀ x ∈ t, x.length = 8) (hbs : b = []) (hb : b.length ≤ 4) (hf : findP b p = -1) (he : ¬ (walkS r t p).1 < 0) (hw : (walkS r t p).2.1 = false) :
  callOf pr 52 [.op 1000000 0, .agg [I 1, I p]] [(1000000, .box [.os (.t 1000001), .os (.t 1000002), .empS]), (1000001, .arr false false (.int .i64) r), (1000002, .arr false true (.slice tyE) t)] =
   some (.tuple [I 3, I (-1)], [(1000000, .box [.os (.t 1000001), .os (.t 1000002), .empS]), (1000001, .arr false false (.int .i64) r), (1000002, .arr false true (.slice tyE) t)]) := by
 subst hbs
 have h1 := call_mpo10 0 r t [] p ha h8 hr hx
 rw [if_neg he] at h1
 have h2 := call_bpe p
 have h0 := walk_pos he
 obtain ⟨hq, hm, hpi, hpj⟩ := page_facts ha
 obtain ⟨g1, g2, g3⟩ := root_facts h8 hpi hr hx h0
 have k2 : ((rootAt r p).toNat < t.length) = True := tr g1
 have k3 : t.getD (rootAt r p).toNat [] = rowAt r t p := rfl
 have k4 : (rowAt r t p).getD (pgJ p) zE = walkS r t p := walk_row (r := r) (t := t) (p := p) h0
 rw [call_eq pr 52 _ _ Tryz.f52 fn_52 _ rfl _ ann_52 rfl]
 simp -implicitDefEqProofs only [h1, h2, k2, k3, k4, hw, go_sem]
theorem call_none11 (k : Int) (r : List Int) (t : List (List En)) (b bs : List Ca) (p : Int) (ha : addrB p = true) (h8 : r.length = 8) (hr : ∀ x ∈ r, -1 ≤ x ∧ x ≤ (t.length : Int) - 1) (hx : ∀ x ∈ t, x.length = 8) (hbs : b = bs) (hb : b.length ≤ 4) (hf : findP b p = -1) (he : (walkS r t p).1 < 0) :
  callOf pr 52 [.op 1000000 0, .agg [I k, I p]] [(1000000, .box [.os (.t 1000001), .os (.t 1000002), .os (.t 1000003)]), (1000001, .arr false false (.int .i64) r), (1000002, .arr false true (.slice tyE) t), (1000003, .arr false false tyC bs)] =
   some (.tuple [I 2, I (-1)], [(1000000, .box [.os (.t 1000001), .os (.t 1000002), .os (.t 1000003)]), (1000001, .arr false false (.int .i64) r), (1000002, .arr false true (.slice tyE) t), (1000003, .arr false false tyC bs)]) := by
 subst hbs
 have h1 := call_mpo11 b.length r t b p ha h8 hr hx
 rw [if_pos he] at h1
 have h2 := call_bp b p (by omega); rw [hf] at h2
 rw [call_eq pr 52 _ _ Tryz.f52 fn_52 _ rfl _ ann_52 rfl]
 simp -implicitDefEqProofs only [h1, h2, go_sem]
theorem call_deny11 (r : List Int) (t : List (List En)) (b bs : List Ca) (p : Int) (ha : addrB p = true) (h8 : r.length = 8) (hr : ∀ x ∈ r, -1 ≤ x ∧ x ≤ (t.length : Int) - 1) (hx : ∀ x ∈ t, x.length = 8) (hbs : b = bs) (hb : b.length ≤ 4) (hf : findP b p = -1) (he : ¬ (walkS r t p).1 < 0) (hw : (walkS r t p).2.1 = false) :
  callOf pr 52 [.op 1000000 0, .agg [I 1, I p]] [(1000000, .box [.os (.t 1000001), .os (.t 1000002), .os (.t 1000003)]), (1000001, .arr false false (.int .i64) r), (1000002, .arr false true (.slice tyE) t), (1000003, .arr false false tyC bs)] =
   some (.tuple [I 3, I (-1)], [(1000000, .box [.os (.t 1000001), .os (.t 1000002), .os (.t 1000003)]), (1000001, .arr false false (.int .i64) r), (1000002, .arr false true (.slice tyE) t), (1000003, .arr false false tyC bs)]) := by
 subst hbs
 have h1 := call_mpo11 b.length r t b p ha h8 hr hx
 rw [if_neg he] at h1
 have h2 := call_bp b p (by omega); rw [hf] at h2
 have h0 := walk_pos he
 obtain ⟨hq, hm, hpi, hpj⟩ := page_facts ha
 obtain ⟨g1, g2, g3⟩ := root_facts h8 hpi hr hx h0
 have k2 : ((rootAt r p).toNat < t.length) = True := tr g1
 have k3 : t.getD (rootAt r p).toNat [] = rowAt r t p := rfl
 have k4 : (rowAt r t p).getD (pgJ p) zE = walkS r t p := walk_row (r := r) (t := t) (p := p) h0
 rw [call_eq pr 52 _ _ Tryz.f52 fn_52 _ rfl _ ann_52 rfl]
 simp -implicitDefEqProofs only [h1, h2, k2, k3, k4, hw, go_sem]
theorem call_none12 (k : Int) (r : List Int) (t : List (List En)) (b bs : List Ca) (p : Int) (ha : addrB p = true) (h8 : r.length = 8) (hr : ∀ x ∈ r, -1 ≤ x ∧ x ≤ (t.length : Int) - 1) (hx : ∀ x ∈ t, x.length = 8) (hbs : bs.take b.length = b) (hb : b.length ≤ 4) (hf : findP b p = -1) (he : (walkS r t p).1 < 0) :
  callOf pr 52 [.op 1000000 0, .agg [I k, I p]] [(1000000, .box [.os (.t 1000001), .os (.t 1000002), .sub (.t 1000003) 0 b.length]), (1000001, .arr false false (.int .i64) r), (1000002, .arr false true (.slice tyE) t), (1000003, .arr false false tyC bs)] =
   some (.tuple [I 2, I (-1)], [(1000000, .box [.os (.t 1000001), .os (.t 1000002), .sub (.t 1000003) 0 b.length]), (1000001, .arr false false (.int .i64) r), (1000002, .arr false true (.slice tyE) t), (1000003, .arr false false tyC bs)]) := by
 have hbl : b.length ≤ bs.length := by { have := congrArg List.length hbs; rw [List.length_take] at this; omega }
 have h1 := call_mpo12 b.length r t bs p ha h8 hr hx
 rw [if_pos he] at h1
 have h2 := call_bp b p (by omega); rw [hf] at h2
 rw [call_eq pr 52 _ _ Tryz.f52 fn_52 _ rfl _ ann_52 rfl]
 simp -implicitDefEqProofs only [h1, hbs, tr hbl, Nat.sub_zero, List.drop_zero, h2, go_sem]
theorem call_deny12 (r : List Int) (t : List (List En)) (b bs : List Ca) (p : Int) (ha : addrB p = true) (h8 : r.length = 8) (hr : ∀ x ∈ r, -1 ≤ x ∧ x ≤ (t.length : Int) - 1) (hx : ∀ x ∈ t, x.length = 8) (hbs : bs.take b.length = b) (hb : b.length ≤ 4) (hf : findP b p = -1) (he : ¬ (walkS r t p).1 < 0) (hw : (walkS r t p).2.1 = false) :
  callOf pr 52 [.op 1000000 0, .agg [I 1, I p]] [(1000000, .box [.os (.t 1000001), .os (.t 1000002), .sub (.t 1000003) 0 b.length]), (1000001, .arr false false (.int .i64) r), (1000002, .arr false true (.slice tyE) t), (1000003, .arr false false tyC bs)] =
   some (.tuple [I 3, I (-1)], [(1000000, .box [.os (.t 1000001), .os (.t 1000002), .sub (.t 1000003) 0 b.length]), (1000001, .arr false false (.int .i64) r), (1000002, .arr false true (.slice tyE) t), (1000003, .arr false false tyC bs)]) := by
 have hbl : b.length ≤ bs.length := by { have := congrArg List.length hbs; rw [List.length_take] at this; omega }
 have h1 := call_mpo12 b.length r t bs p ha h8 hr hx
 rw [if_neg he] at h1
 have h2 := call_bp b p (by omega); rw [hf] at h2
 have h0 := walk_pos he
 obtain ⟨hq, hm, hpi, hpj⟩ := page_facts ha
 obtain ⟨g1, g2, g3⟩ := root_facts h8 hpi hr hx h0
 have k2 : ((rootAt r p).toNat < t.length) = True := tr g1
 have k3 : t.getD (rootAt r p).toNat [] = rowAt r t p := rfl
 have k4 : (rowAt r t p).getD (pgJ p) zE = walkS r t p := walk_row (r := r) (t := t) (p := p) h0
 rw [call_eq pr 52 _ _ Tryz.f52 fn_52 _ rfl _ ann_52 rfl]
 simp -implicitDefEqProofs only [h1, hbs, tr hbl, Nat.sub_zero, List.drop_zero, h2, k2, k3, k4, hw, go_sem]
theorem call_fill10 (k : Int) (r : List Int) (t : List (List En)) (b bs : List Ca) (p : Int) (ha : addrB p = true) (h8 : r.length = 8) (hr : ∀ x ∈ r, -1 ≤ x ∧ x ≤ (t.length : Int) - 1) (hx : ∀ x ∈ t, x.length = 8) (hbs : b = []) (hb : b.length ≤ 4) (hf : findP b p = -1) (he : ¬ (walkS r t p).1 < 0) (hw : (decide (k = 1) && !(walkS r t p).2.1) = false) :
  callOf pr 52 [.op 1000000 0, .agg [I k, I p]] [(1000000, .box [.os (.t 1000001), .os (.t 1000002), .empS]), (1000001, .arr false false (.int .i64) r), (1000002, .arr false true (.slice tyE) t)] =
   some (.tuple [I 1, I (walkS r t p).1], [(1000000, .box [.os (.t 1000001), .os (.t 1000002), .sub (.t 5696) 0 (min (b.length + 1) 4)]), (1000001, .arr false false (.int .i64) r), (1000002, .arr false true (.slice tyE) (usedT r t p (decide (k = 1)))), (5696, .arr true false tyC ((p, (walkS r t p).1, (walkS r t p).2.1, ()) :: b))]) := by
 subst hbs
 have h1 := call_mpo10 0 r t [] p ha h8 hr hx
 rw [if_neg he] at h1
 have h2 := call_bpe p
 have h0 := walk_pos he
 obtain ⟨hq, hm, hpi, hpj⟩ := page_facts ha
 obtain ⟨g1, g2, g3⟩ := root_facts h8 hpi hr hx h0
 have k2 : ((rootAt r p).toNat < t.length) = True := tr g1
 have k3 : t.getD (rootAt r p).toNat [] = rowAt r t p := rfl
 obtain ⟨⟨ef, ew, eu, ed, ⟨⟩⟩, hE⟩ : ∃ e, walkS r t p = e := ⟨_, rfl⟩
 have k4 : (rowAt r t p).getD (pgJ p) zE = (ef, ew, eu, ed, ()) := by rw [← hE]; exact walk_row (r := r) (t := t) (p := p) h0
 have s3 : ∀ X : List En, (t.set (rootAt r p).toNat X).getD (rootAt r p).toNat [] = X := fun X => getD_set_self t _ g1 X []
 have s4 : ∀ e : En, ((rowAt r t p).set (pgJ p) e).getD (pgJ p) zE = e := fun e => getD_set_self _ _ (by omega) e _
 have hu : ∀ w, usedT r t p w = t.set (rootAt r p).toNat ((rowAt r t p).set (pgJ p) (ef, ew, true, ed || w, ())) := fun w => by
  rw [usedT, if_neg he, hE]; rfl
 have d2 := call_insemp (m := false) (x := (p, ef, ew, ()))
 have hlen4 : (min (((([] : List Ca).length + 1 : Nat) : Int)) 4) = (((min (([] : List Ca).length + 1) 4 : Nat)) : Int) := by omega
 have hA : ((0 : Int) ≤ ((min (([] : List Ca).length + 1) 4 : Nat) : Int)) = True := tr (by omega)
 have hB : (((min (([] : List Ca).length + 1) 4 : Nat) : Int) ≤ ((([] : List Ca).length + 1 : Nat) : Int)) = True := tr (by omega)
 rw [hu, call_eq pr 52 _ _ Tryz.f52 fn_52 _ rfl _ ann_52 rfl]
 rw [hE] at hw ⊢
 by_cases hk : k = 1
 ·subst hk
  cases ew with
  | false => simp at hw
  | true =>
   cases ed
   ·simp -implicitDefEqProofs only [h1, h2, k2, k3, k4, s3, s4, d2, List.length_set, set_twice, go_sem]
    rfl
   ·simp -implicitDefEqProofs only [h1, h2, k2, k3, k4, s3, s4, d2, List.length_set, set_twice, go_sem]
    rfl
 ·have hk2 : decide (k = 1) = false := by simp [hk]
  rw [hk2]
  cases ed
  ·simp -implicitDefEqProofs only [h1, h2, k2, k3, k4, s3, s4, d2, fa hk, List.length_set, set_twice, go_sem]
   rfl
  ·simp -implicitDefEqProofs only [h1, h2, k2, k3, k4, s3, s4, d2, fa hk, List.length_set, set_twice, go_sem]
   rfl
theorem call_fill11 (k : Int) (r : List Int) (t : List (List En)) (b bs : List Ca) (p : Int) (ha : addrB p = true) (h8 : r.length = 8) (hr : ∀ x ∈ r, -1 ≤ x ∧ x ≤ (t.length : Int) - 1) (hx : ∀ x ∈ t, x.length = 8) (hbs : b = bs) (hb : b.length ≤ 4) (hf : findP b p = -1) (he : ¬ (walkS r t p).1 < 0) (hw : (decide (k = 1) && !(walkS r t p).2.1) = false) :
  callOf pr 52 [.op 1000000 0, .agg [I k, I p]] [(1000000, .box [.os (.t 1000001), .os (.t 1000002), .os (.t 1000003)]), (1000001, .arr false false (.int .i64) r), (1000002, .arr false true (.slice tyE) t), (1000003, .arr false false tyC bs)] =
   some (.tuple [I 1, I (walkS r t p).1], [(1000000, .box [.os (.t 1000001), .os (.t 1000002), .sub (.t 1000003) 0 (min (b.length + 1) 4)]), (1000001, .arr false false (.int .i64) r), (1000002, .arr false true (.slice tyE) (usedT r t p (decide (k = 1)))), (1000003, .arr true false tyC ((p, (walkS r t p).1, (walkS r t p).2.1, ()) :: b))]) := by
 subst hbs
 have h1 := call_mpo11 b.length r t b p ha h8 hr hx
 rw [if_neg he] at h1
 have h2 := call_bp b p (by omega); rw [hf] at h2
 have h0 := walk_pos he
 obtain ⟨hq, hm, hpi, hpj⟩ := page_facts ha
 obtain ⟨g1, g2, g3⟩ := root_facts h8 hpi hr hx h0
 have k2 : ((rootAt r p).toNat < t.length) = True := tr g1
 have k3 : t.getD (rootAt r p).toNat [] = rowAt r t p := rfl
 obtain ⟨⟨ef, ew, eu, ed, ⟨⟩⟩, hE⟩ : ∃ e, walkS r t p = e := ⟨_, rfl⟩
 have k4 : (rowAt r t p).getD (pgJ p) zE = (ef, ew, eu, ed, ()) := by rw [← hE]; exact walk_row (r := r) (t := t) (p := p) h0
 have s3 : ∀ X : List En, (t.set (rootAt r p).toNat X).getD (rootAt r p).toNat [] = X := fun X => getD_set_self t _ g1 X []
 have s4 : ∀ e : En, ((rowAt r t p).set (pgJ p) e).getD (pgJ p) zE = e := fun e => getD_set_self _ _ (by omega) e _
 have hu : ∀ w, usedT r t p w = t.set (rootAt r p).toNat ((rowAt r t p).set (pgJ p) (ef, ew, true, ed || w, ())) := fun w => by
  rw [usedT, if_neg he, hE]; rfl
 have d2 := call_insos (m := false) (m1 := false) (x := (p, ef, ew, ())) (ys := b) (by omega)
 have hlen4 : (min (((b.length + 1 : Nat) : Int)) 4) = (((min (b.length + 1) 4 : Nat)) : Int) := by omega
 have hA : ((0 : Int) ≤ ((min (b.length + 1) 4 : Nat) : Int)) = True := tr (by omega)
 have hB : (((min (b.length + 1) 4 : Nat) : Int) ≤ ((b.length + 1 : Nat) : Int)) = True := tr (by omega)
 rw [hu, call_eq pr 52 _ _ Tryz.f52 fn_52 _ rfl _ ann_52 rfl]
 rw [hE] at hw ⊢
 by_cases hk : k = 1
 ·subst hk
  cases ew with
  | false => simp at hw
  | true =>
   cases ed
   ·simp -implicitDefEqProofs only [h1, h2, k2, k3, k4, s3, s4, d2, List.length_set, set_twice, go_sem]
    rw [hlen4]; simp only [hA, hB, Int.toNat_natCast, Nat.sub_zero, and_self, if_true]
   ·simp -implicitDefEqProofs only [h1, h2, k2, k3, k4, s3, s4, d2, List.length_set, set_twice, go_sem]
    rw [hlen4]; simp only [hA, hB, Int.toNat_natCast, Nat.sub_zero, and_self, if_true]
 ·have hk2 : decide (k = 1) = false := by simp [hk]
  rw [hk2]
  cases ed
  ·simp -implicitDefEqProofs only [h1, h2, k2, k3, k4, s3, s4, d2, fa hk, List.length_set, set_twice, go_sem]
   rw [hlen4]; simp only [hA, hB, Int.toNat_natCast, Nat.sub_zero, and_self, if_true]
  ·simp -implicitDefEqProofs only [h1, h2, k2, k3, k4, s3, s4, d2, fa hk, List.length_set, set_twice, go_sem]
   rw [hlen4]; simp only [hA, hB, Int.toNat_natCast, Nat.sub_zero, and_self, if_true]
theorem call_fill12 (k : Int) (r : List Int) (t : List (List En)) (b bs : List Ca) (p : Int) (ha : addrB p = true) (h8 : r.length = 8) (hr : ∀ x ∈ r, -1 ≤ x ∧ x ≤ (t.length : Int) - 1) (hx : ∀ x ∈ t, x.length = 8) (hbs : bs.take b.length = b) (hb : b.length ≤ 4) (hf : findP b p = -1) (he : ¬ (walkS r t p).1 < 0) (hw : (decide (k = 1) && !(walkS r t p).2.1) = false) :
  callOf pr 52 [.op 1000000 0, .agg [I k, I p]] [(1000000, .box [.os (.t 1000001), .os (.t 1000002), .sub (.t 1000003) 0 b.length]), (1000001, .arr false false (.int .i64) r), (1000002, .arr false true (.slice tyE) t), (1000003, .arr false false tyC bs)] =
   some (.tuple [I 1, I (walkS r t p).1], [(1000000, .box [.os (.t 1000001), .os (.t 1000002), .sub (.t 1000003) 0 (min (b.length + 1) 4)]), (1000001, .arr false false (.int .i64) r), (1000002, .arr false true (.slice tyE) (usedT r t p (decide (k = 1)))), (1000003, .arr true false tyC ((p, (walkS r t p).1, (walkS r t p).2.1, ()) :: b))]) := by
 have hbl : b.length ≤ bs.length := by { have := congrArg List.length hbs; rw [List.length_take] at this; omega }
 have h1 := call_mpo12 b.length r t bs p ha h8 hr hx
 rw [if_neg he] at h1
 have h2 := call_bp b p (by omega); rw [hf] at h2
 have h0 := walk_pos he
 obtain ⟨hq, hm, hpi, hpj⟩ := page_facts ha
 obtain ⟨g1, g2, g3⟩ := root_facts h8 hpi hr hx h0
 have k2 : ((rootAt r p).toNat < t.length) = True := tr g1
 have k3 : t.getD (rootAt r p).toNat [] = rowAt r t p := rfl
 obtain ⟨⟨ef, ew, eu, ed, ⟨⟩⟩, hE⟩ : ∃ e, walkS r t p = e := ⟨_, rfl⟩
 have k4 : (rowAt r t p).getD (pgJ p) zE = (ef, ew, eu, ed, ()) := by rw [← hE]; exact walk_row (r := r) (t := t) (p := p) h0
 have s3 : ∀ X : List En, (t.set (rootAt r p).toNat X).getD (rootAt r p).toNat [] = X := fun X => getD_set_self t _ g1 X []
 have s4 : ∀ e : En, ((rowAt r t p).set (pgJ p) e).getD (pgJ p) zE = e := fun e => getD_set_self _ _ (by omega) e _
 have hu : ∀ w, usedT r t p w = t.set (rootAt r p).toNat ((rowAt r t p).set (pgJ p) (ef, ew, true, ed || w, ())) := fun w => by
  rw [usedT, if_neg he, hE]; rfl
 have d2 := call_inssub (m := false) (m1 := false) (x := (p, ef, ew, ())) (ys := bs) (n := b.length) hbl (by omega); rw [hbs] at d2
 have hlen4 : (min (((b.length + 1 : Nat) : Int)) 4) = (((min (b.length + 1) 4 : Nat)) : Int) := by omega
 have hA : ((0 : Int) ≤ ((min (b.length + 1) 4 : Nat) : Int)) = True := tr (by omega)
 have hB : (((min (b.length + 1) 4 : Nat) : Int) ≤ ((b.length + 1 : Nat) : Int)) = True := tr (by omega)
 rw [hu, call_eq pr 52 _ _ Tryz.f52 fn_52 _ rfl _ ann_52 rfl]
 rw [hE] at hw ⊢
 by_cases hk : k = 1
 ·subst hk
  cases ew with
  | false => simp at hw
  | true =>
   cases ed
   ·simp -implicitDefEqProofs only [h1, hbs, tr hbl, Nat.sub_zero, List.drop_zero, h2, k2, k3, k4, s3, s4, d2, List.length_set, set_twice, go_sem]
    rw [hlen4]; simp only [hA, hB, Int.toNat_natCast, Nat.sub_zero, and_self, if_true]
   ·simp -implicitDefEqProofs only [h1, hbs, tr hbl, Nat.sub_zero, List.drop_zero, h2, k2, k3, k4, s3, s4, d2, List.length_set, set_twice, go_sem]
    rw [hlen4]; simp only [hA, hB, Int.toNat_natCast, Nat.sub_zero, and_self, if_true]
 ·have hk2 : decide (k = 1) = false := by simp [hk]
  rw [hk2]
  cases ed
  ·simp -implicitDefEqProofs only [h1, hbs, tr hbl, Nat.sub_zero, List.drop_zero, h2, k2, k3, k4, s3, s4, d2, fa hk, List.length_set, set_twice, go_sem]
   rw [hlen4]; simp only [hA, hB, Int.toNat_natCast, Nat.sub_zero, and_self, if_true]
  ·simp -implicitDefEqProofs only [h1, hbs, tr hbl, Nat.sub_zero, List.drop_zero, h2, k2, k3, k4, s3, s4, d2, fa hk, List.length_set, set_twice, go_sem]
   rw [hlen4]; simp only [hA, hB, Int.toNat_natCast, Nat.sub_zero, and_self, if_true]
end Go.Proofs.YtbapbghnageckaaGreat.PI
