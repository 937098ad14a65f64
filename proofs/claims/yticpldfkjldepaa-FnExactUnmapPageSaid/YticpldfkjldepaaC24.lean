/- Entries of pages: looked up and changed. -/
import Derived.Test.YticpldfkjldepaaC21
namespace Go.Proofs.Yticpldfkjldepaa.PI
open Go Go.Q
set_option maxRecDepth 100000
set_option maxHeartbeats 4000000
set_option linter.unusedSimpArgs false
set_option linter.unusedVariables false
def pgI (p : Int) : Nat := (p / 8).toNat
def pgJ (p : Int) : Nat := (p % 8).toNat
def emptyEn : En := (-1, false, false, false, ())
abbrev agE (e : En) : AV := .agg [I e.1, B e.2.1, B e.2.2.1, B e.2.2.2.1]
abbrev rpE (e : En) : AV := .rp [I e.1, B e.2.1, B e.2.2.1, B e.2.2.2.1]
def rootAt (r : List Int) (p : Int) : Int := r.getD (pgI p) 0
def rowAt (r : List Int) (t : List (List En)) (p : Int) : List En := t.getD (rootAt r p).toNat []
def walkS (r : List Int) (t : List (List En)) (p : Int) : En := if rootAt r p < 0 then emptyEn else (rowAt r t p).getD (pgJ p) (0, false, false, false, ())
def putT (r : List Int) (t : List (List En)) (p : Int) (e : En) : List (List En) := t.set (rootAt r p).toNat ((rowAt r t p).set (pgJ p) e)
theorem page_facts {p : Int} (ha : addrB p = true) : IntKind.i64.wrap (p.tdiv 8) = ((pgI p : Nat) : Int) ∧ p.tmod 8 = ((pgJ p : Nat) : Int) ∧ pgI p < 8 ∧ pgJ p < 8 := by
  simp only [addrB, decide_eq_true_eq] at ha
  have h1 : p.tdiv 8 = p / 8 := Int.tdiv_eq_ediv_of_nonneg ha.1
  have h2 : p.tmod 8 = p % 8 := Int.tmod_eq_emod_of_nonneg ha.1
  rw [h1, h2]
  simp only [pgI, pgJ]
  refine ⟨?_, ?_, ?_, ?_⟩
  · rw [wrap_i] <;> omega
  · omega
  · omega
  · omega
theorem root_facts {r : List Int} {t : List (List En)} {p : Int} (h8 : r.length = 8) (hp : pgI p < 8) (hr : ∀ x ∈ r, -1 ≤ x ∧ x ≤ (t.length : Int) - 1) (hx : ∀ x ∈ t, x.length = 8) (h0 : ¬ rootAt r p < 0) : (rootAt r p).toNat < t.length ∧ rootAt r p = (((rootAt r p).toNat : Nat) : Int) ∧ (rowAt r t p).length = 8 := by
  have hm : rootAt r p ∈ r := by
    have : rootAt r p = r[pgI p]'(by omega) := by simp [rootAt, List.getD, List.getElem?_eq_getElem (show pgI p < r.length by omega)]
    rw [this]; exact List.getElem_mem _
  have hb := hr _ hm
  have h1 : (rootAt r p).toNat < t.length := by omega
  refine ⟨h1, by omega, hx _ ?_⟩
  have : rowAt r t p = t[(rootAt r p).toNat] := by simp [rowAt, List.getD, List.getElem?_eq_getElem h1]
  rw [this]; exact List.getElem_mem _
theorem call_em : callOf pr 56 [] [] = some (agE emptyEn, []) := by
  rw [call_eq pr 56 _ _ Try.f56 fn_56 _ rfl _ ann_56 rfl]
  simp -implicitDefEqProofs only [go_sem, Nat.reduceAdd, Nat.reduceSub, Nat.reduceMul, Nat.reduceMod, Nat.reduceLT, Nat.reduceLeDiff, Nat.reduceEqDiff, Nat.reduceBEq, Nat.reduceDiv, Int.reduceLT, Int.reduceLE, Int.reduceToNat, Int.reduceNeg, Int.reduceEq, ↓reduceIte, reduceCtorEq, ↓reduceDIte]
  rfl
theorem call_wk (r : List Int) (t : List (List En)) (b : List Ca) (p : Int) (ha : addrB p = true) (h8 : r.length = 8) (hr : ∀ x ∈ r, -1 ≤ x ∧ x ≤ (t.length : Int) - 1) (hx : ∀ x ∈ t, x.length = 8) : callOf pr 54 [.rp [L r, LLE t, LC b], I p] [] = some (agE (walkS r t p), []) := by
  obtain ⟨hq, hm, hi, hj⟩ := page_facts ha
  have i1 : (((pgI p : Nat) : Int) < (r.length : Int)) = True := tr (by omega)
  have i2 : (pgI p < r.length) = True := tr (by omega)
  have hroot : r.getD (pgI p) 0 = rootAt r p := rfl
  rw [call_eq pr 54 _ _ Try.f54 fn_54 _ rfl _ ann_54 rfl]
  by_cases h0 : rootAt r p < 0
  · have e : walkS r t p = emptyEn := if_pos h0
    rw [e]
    simp -implicitDefEqProofs only [hq, hm, zero_le_cast, Int.toNat_natCast, i1, i2, hroot, tr h0, call_em, go_sem, Nat.reduceAdd, Nat.reduceSub, Nat.reduceMul, Nat.reduceMod, Nat.reduceLT, Nat.reduceLeDiff, Nat.reduceEqDiff, Nat.reduceBEq, Nat.reduceDiv, Int.reduceLT, Int.reduceLE, Int.reduceToNat, Int.reduceNeg, Int.reduceEq, ↓reduceIte, reduceCtorEq, ↓reduceDIte]
  · obtain ⟨g1, g2, g3⟩ := root_facts h8 hi hr hx h0
    have e : walkS r t p = (rowAt r t p).getD (pgJ p) (0, false, false, false, ()) := if_neg h0
    have j0 : (0 ≤ rootAt r p) = True := tr (by omega)
    have j1 : (rootAt r p < (t.length : Int)) = True := tr (by omega)
    have j2 : (((pgJ p : Nat) : Int) < ((rowAt r t p).length : Int)) = True := tr (by omega)
    have hrow : t.getD (rootAt r p).toNat [] = rowAt r t p := rfl
    rw [e]
    simp -implicitDefEqProofs only [hq, hm, zero_le_cast, Int.toNat_natCast, i1, i2, hroot, fa h0, j0, j1, j2, hrow, go_sem, Nat.reduceAdd, Nat.reduceSub, Nat.reduceMul, Nat.reduceMod, Nat.reduceLT, Nat.reduceLeDiff, Nat.reduceEqDiff, Nat.reduceBEq, Nat.reduceDiv, Int.reduceLT, Int.reduceLE, Int.reduceToNat, Int.reduceNeg, Int.reduceEq, ↓reduceIte, reduceCtorEq, ↓reduceDIte]
theorem call_en (r : List Int) (t : List (List En)) (b : List Ca) (p : Int) (ha : addrB p = true) (h8 : r.length = 8) (hr : ∀ x ∈ r, -1 ≤ x ∧ x ≤ (t.length : Int) - 1) (hx : ∀ x ∈ t, x.length = 8) : callOf pr 99 [.agg [L r, LLE t, LC b], I p] [] = some (if rootAt r p < 0 then .nilP else rpE (walkS r t p), []) := by
  obtain ⟨hq, hm, hi, hj⟩ := page_facts ha
  have i1 : (((pgI p : Nat) : Int) < (r.length : Int)) = True := tr (by omega)
  have i2 : (pgI p < r.length) = True := tr (by omega)
  have hroot : r.getD (pgI p) 0 = rootAt r p := rfl
  rw [call_eq pr 99 _ _ Try.f99 fn_99 _ rfl _ ann_99 rfl]
  by_cases h0 : rootAt r p < 0
  · rw [if_pos h0]
    simp -implicitDefEqProofs only [hq, hm, zero_le_cast, Int.toNat_natCast, i1, i2, hroot, tr h0, go_sem, Nat.reduceAdd, Nat.reduceSub, Nat.reduceMul, Nat.reduceMod, Nat.reduceLT, Nat.reduceLeDiff, Nat.reduceEqDiff, Nat.reduceBEq, Nat.reduceDiv, Int.reduceLT, Int.reduceLE, Int.reduceToNat, Int.reduceNeg, Int.reduceEq, ↓reduceIte, reduceCtorEq, ↓reduceDIte]
  · obtain ⟨g1, g2, g3⟩ := root_facts h8 hi hr hx h0
    have e : walkS r t p = (rowAt r t p).getD (pgJ p) (0, false, false, false, ()) := if_neg h0
    have j0 : (0 ≤ rootAt r p) = True := tr (by omega)
    have j1 : (rootAt r p < (t.length : Int)) = True := tr (by omega)
    have j2 : (((pgJ p : Nat) : Int) < ((rowAt r t p).length : Int)) = True := tr (by omega)
    have hrow : t.getD (rootAt r p).toNat [] = rowAt r t p := rfl
    rw [if_neg h0, e]
    simp -implicitDefEqProofs only [hq, hm, zero_le_cast, Int.toNat_natCast, i1, i2, hroot, fa h0, j0, j1, j2, hrow, go_sem, Nat.reduceAdd, Nat.reduceSub, Nat.reduceMul, Nat.reduceMod, Nat.reduceLT, Nat.reduceLeDiff, Nat.reduceEqDiff, Nat.reduceBEq, Nat.reduceDiv, Int.reduceLT, Int.reduceLE, Int.reduceToNat, Int.reduceNeg, Int.reduceEq, ↓reduceIte, reduceCtorEq, ↓reduceDIte]
theorem call_mp (r : List Int) (t : List (List En)) (b : List Ca) (p : Int) (ha : addrB p = true) (h8 : r.length = 8) (hr : ∀ x ∈ r, -1 ≤ x ∧ x ≤ (t.length : Int) - 1) (hx : ∀ x ∈ t, x.length = 8) : callOf pr 66 [.agg [L r, LLE t, LC b], I p] [] = some (if (walkS r t p).1 < 0 then .nilP else rpE (walkS r t p), []) := by
  have h1 := call_en r t b p ha h8 hr hx
  rw [call_eq pr 66 _ _ Try.f66 fn_66 _ rfl _ ann_66 rfl]
  by_cases h0 : rootAt r p < 0
  · have e : walkS r t p = emptyEn := if_pos h0
    rw [if_pos h0] at h1
    rw [if_pos (by rw [e]; decide)]
    simp -implicitDefEqProofs only [h1, go_sem, Nat.reduceAdd, Nat.reduceSub, Nat.reduceMul, Nat.reduceMod, Nat.reduceLT, Nat.reduceLeDiff, Nat.reduceEqDiff, Nat.reduceBEq, Nat.reduceDiv, Int.reduceLT, Int.reduceLE, Int.reduceToNat, Int.reduceNeg, Int.reduceEq, ↓reduceIte, reduceCtorEq, ↓reduceDIte]
  · rw [if_neg h0] at h1
    by_cases h2 : (walkS r t p).1 < 0
    · rw [if_pos h2]
      simp -implicitDefEqProofs only [h1, tr h2, go_sem, Nat.reduceAdd, Nat.reduceSub, Nat.reduceMul, Nat.reduceMod, Nat.reduceLT, Nat.reduceLeDiff, Nat.reduceEqDiff, Nat.reduceBEq, Nat.reduceDiv, Int.reduceLT, Int.reduceLE, Int.reduceToNat, Int.reduceNeg, Int.reduceEq, ↓reduceIte, reduceCtorEq, ↓reduceDIte]
    · rw [if_neg h2]
      simp -implicitDefEqProofs only [h1, fa h2, go_sem, Nat.reduceAdd, Nat.reduceSub, Nat.reduceMul, Nat.reduceMod, Nat.reduceLT, Nat.reduceLeDiff, Nat.reduceEqDiff, Nat.reduceBEq, Nat.reduceDiv, Int.reduceLT, Int.reduceLE, Int.reduceToNat, Int.reduceNeg, Int.reduceEq, ↓reduceIte, reduceCtorEq, ↓reduceDIte]
/-! in memory of its own -/
theorem call_eno0 (r : List Int) (t : List (List En)) (b : List Ca) (p : Int) (ha : addrB p = true) (h8 : r.length = 8) (hr : ∀ x ∈ r, -1 ≤ x ∧ x ≤ (t.length : Int) - 1) (hx : ∀ x ∈ t, x.length = 8) (h0 : ¬ rootAt r p < 0) : callOf pr 99 [.agg [.os (.t 1000000), .os (.t 1000001), .empS], I p] [(1000000, .arr false false (.int .i64) r), (1000001, .arr false true (.slice tyE) t)] = some (.el (.n 1000001 (rootAt r p).toNat 0) (pgJ p) 0, [(1000000, .arr false false (.int .i64) r), (1000001, .arr false true (.slice tyE) t)]) := by
  obtain ⟨hq, hm, hi, hj⟩ := page_facts ha
  have i1 : (((pgI p : Nat) : Int) < (r.length : Int)) = True := tr (by omega)
  have i2 : (pgI p < r.length) = True := tr (by omega)
  have hroot : r.getD (pgI p) 0 = rootAt r p := rfl
  rw [call_eq pr 99 _ _ Try.f99 fn_99 _ rfl _ ann_99 rfl]
  obtain ⟨g1, g2, g3⟩ := root_facts h8 hi hr hx h0
  have j0 : (0 ≤ rootAt r p) = True := tr (by omega)
  have j1 : (rootAt r p < (t.length : Int)) = True := tr (by omega)
  have j2 : (((pgJ p : Nat) : Int) < ((rowAt r t p).length : Int)) = True := tr (by omega)
  have j3 : ((rootAt r p).toNat < t.length) = True := tr g1
  have hrow : t.getD (rootAt r p).toNat [] = rowAt r t p := rfl
  simp -implicitDefEqProofs only [hq, hm, zero_le_cast, Int.toNat_natCast, i1, i2, hroot, fa h0, j0, j1, j2, j3, hrow, go_sem, Nat.reduceAdd, Nat.reduceSub, Nat.reduceMul, Nat.reduceMod, Nat.reduceLT, Nat.reduceLeDiff, Nat.reduceEqDiff, Nat.reduceBEq, Nat.reduceDiv, Int.reduceLT, Int.reduceLE, Int.reduceToNat, Int.reduceNeg, Int.reduceEq, ↓reduceIte, reduceCtorEq, ↓reduceDIte]
theorem call_eno1 (r : List Int) (t : List (List En)) (b : List Ca) (p : Int) (ha : addrB p = true) (h8 : r.length = 8) (hr : ∀ x ∈ r, -1 ≤ x ∧ x ≤ (t.length : Int) - 1) (hx : ∀ x ∈ t, x.length = 8) (h0 : ¬ rootAt r p < 0) : callOf pr 99 [.agg [.os (.t 1000000), .os (.t 1000001), .os (.t 1000002)], I p] [(1000000, .arr false false (.int .i64) r), (1000001, .arr false true (.slice tyE) t), (1000002, .arr false false tyC b)] = some (.el (.n 1000001 (rootAt r p).toNat 0) (pgJ p) 0, [(1000000, .arr false false (.int .i64) r), (1000001, .arr false true (.slice tyE) t), (1000002, .arr false false tyC b)]) := by
  obtain ⟨hq, hm, hi, hj⟩ := page_facts ha
  have i1 : (((pgI p : Nat) : Int) < (r.length : Int)) = True := tr (by omega)
  have i2 : (pgI p < r.length) = True := tr (by omega)
  have hroot : r.getD (pgI p) 0 = rootAt r p := rfl
  rw [call_eq pr 99 _ _ Try.f99 fn_99 _ rfl _ ann_99 rfl]
  obtain ⟨g1, g2, g3⟩ := root_facts h8 hi hr hx h0
  have j0 : (0 ≤ rootAt r p) = True := tr (by omega)
  have j1 : (rootAt r p < (t.length : Int)) = True := tr (by omega)
  have j2 : (((pgJ p : Nat) : Int) < ((rowAt r t p).length : Int)) = True := tr (by omega)
  have j3 : ((rootAt r p).toNat < t.length) = True := tr g1
  have hrow : t.getD (rootAt r p).toNat [] = rowAt r t p := rfl
  simp -implicitDefEqProofs only [hq, hm, zero_le_cast, Int.toNat_natCast, i1, i2, hroot, fa h0, j0, j1, j2, j3, hrow, go_sem, Nat.reduceAdd, Nat.reduceSub, Nat.reduceMul, Nat.reduceMod, Nat.reduceLT, Nat.reduceLeDiff, Nat.reduceEqDiff, Nat.reduceBEq, Nat.reduceDiv, Int.reduceLT, Int.reduceLE, Int.reduceToNat, Int.reduceNeg, Int.reduceEq, ↓reduceIte, reduceCtorEq, ↓reduceDIte]
theorem call_pu (r : List Int) (t : List (List En)) (b : List Ca) (p : Int) (ha : addrB p = true) (h8 : r.length = 8) (hr : ∀ x ∈ r, -1 ≤ x ∧ x ≤ (t.length : Int) - 1) (hx : ∀ x ∈ t, x.length = 8) (hb : b.length < 2000000) (ht : t.length < 1000) (h0 : ¬ rootAt r p < 0) (f : Int) (w u d : Bool) : callOf pr 55 [.rp [L r, LLE t, LC b], I p, .agg [I f, B w, B u, B d]] [] = some (.agg [.os (.t 576), .os (.t 578), .os (.t 577)], [(576, .arr true false (.int .i64) r), (577, .arr true false tyC b), (578, .arr true true (.slice tyE) (putT r t p (f, w, u, d, ())))]) := by
  obtain ⟨hq, hm, hi, hj⟩ := page_facts ha
  have i1 : (((pgI p : Nat) : Int) < (r.length : Int)) = True := tr (by omega)
  have i2 : (pgI p < r.length) = True := tr (by omega)
  have hroot : r.getD (pgI p) 0 = rootAt r p := rfl
  have h1 := call_so r t b (by omega) ht (fun x hx' => by rw [hx x hx']; omega) hb
  obtain ⟨g1, g2, g3⟩ := root_facts h8 hi hr hx h0
  have j0 : (0 ≤ rootAt r p) = True := tr (by omega)
  have j1 : (rootAt r p < (t.length : Int)) = True := tr (by omega)
  have j2 : (((pgJ p : Nat) : Int) < ((rowAt r t p).length : Int)) = True := tr (by omega)
  have j3 : ((rootAt r p).toNat < t.length) = True := tr g1
  have j4 : (pgJ p < (rowAt r t p).length) = True := tr (by omega)
  have hrow : t.getD (rootAt r p).toNat [] = rowAt r t p := rfl
  rw [call_eq pr 55 _ _ Try.f55 fn_55 _ rfl _ ann_55 rfl]
  simp -implicitDefEqProofs only [h1, hq, hm, zero_le_cast, Int.toNat_natCast, i1, i2, hroot, fa h0, j0, j1, j2, j3, j4, hrow, go_sem, Nat.reduceAdd, Nat.reduceSub, Nat.reduceMul, Nat.reduceMod, Nat.reduceLT, Nat.reduceLeDiff, Nat.reduceEqDiff, Nat.reduceBEq, Nat.reduceDiv, Int.reduceLT, Int.reduceLE, Int.reduceToNat, Int.reduceNeg, Int.reduceEq, ↓reduceIte, reduceCtorEq, ↓reduceDIte]
  rfl
def hasE (r : List Int) (t : List (List En)) (b : List Ca) (p : Int) : Bool := specS r t b && addrB p && decide (0 ≤ (walkS r t p).1)
theorem hasE_facts {r : List Int} {t : List (List En)} {b : List Ca} {p : Int} (h : hasE r t b p = true) : specS r t b = true ∧ addrB p = true ∧ 0 ≤ (walkS r t p).1 ∧ ¬ rootAt r p < 0 ∧ t ≠ [] := by
  simp only [hasE, Bool.and_eq_true, decide_eq_true_eq] at h
  have h0 : ¬ rootAt r p < 0 := by
    intro hc
    have e : walkS r t p = emptyEn := if_pos hc
    have := h.2
    rw [e] at this
    simp [emptyEn] at this
  obtain ⟨s1, s2, s3, s4, s5⟩ := spec_tab h.1.1
  obtain ⟨_, _, hi, _⟩ := page_facts h.1.2
  obtain ⟨g1, _⟩ := root_facts s1 hi s4 s3 h0
  exact ⟨h.1.1, h.1.2, h.2, h0, by rintro rfl; simp at g1⟩
theorem putT_length (r : List Int) (t : List (List En)) (p : Int) (e : En) : (putT r t p e).length = t.length := by simp [putT]
theorem putT_rows {r : List Int} {t : List (List En)} {p : Int} {e : En} (hx : ∀ x ∈ t, x.length = 8) (h : (rowAt r t p).length = 8) : ∀ x ∈ putT r t p e, x.length = 8 := by
  intro x hx'
  rcases List.mem_or_eq_of_mem_set hx' with h1 | h1
  · exact hx x h1
  · rw [h1, List.length_set]; exact h
theorem put_sizes {r : List Int} {t : List (List En)} {b : List Ca} {p : Int} (h : hasE r t b p = true) (e : En) : r.length ≤ 100 ∧ (putT r t p e).length ≤ 100 ∧ (∀ x ∈ putT r t p e, x.length ≤ 100) ∧ b.length ≤ 100 := by
  obtain ⟨k1, k2, k3, k4, k5⟩ := hasE_facts h
  obtain ⟨s1, s2, s3, s4, s5⟩ := spec_tab k1
  obtain ⟨_, _, hi, _⟩ := page_facts k2
  obtain ⟨g1, g2, g3⟩ := root_facts s1 hi s4 s3 k4
  exact ⟨by omega, by rw [putT_length]; omega, fun x hx => by rw [putT_rows s3 g3 x hx]; omega, by omega⟩
theorem call_su (r : List Int) (t : List (List En)) (b : List Ca) (p : Int) (hb : b.length < 2000000) : callOf pr 20 [.agg [L r, LLE t, LC b], I p] [] = if hasE r t b p = true then some (.tuple [.agg [.os (.t 1408), .os (.t 1410), .os (.t 1409)], B true], [(1408, .arr true false (.int .i64) r), (1409, .arr true false tyC b), (1410, .arr true true (.slice tyE) (putT r t p emptyEn))]) else some (.tuple [.agg [.nilS, .nilS, .nilS], B false], []) := by
  have h1 := call_si r t b
  have h3 := call_ad p
  rw [call_eq pr 20 _ _ Try.f20 fn_20 _ rfl _ ann_20 rfl]
  cases hs : specS r t b with
  | false =>
    rw [hs] at h1
    rw [if_neg (by simp [hasE, hs])]
    simp -implicitDefEqProofs only [h1, go_sem, Nat.reduceAdd, Nat.reduceSub, Nat.reduceMul, Nat.reduceMod, Nat.reduceLT, Nat.reduceLeDiff, Nat.reduceEqDiff, Nat.reduceBEq, Nat.reduceDiv, Int.reduceLT, Int.reduceLE, Int.reduceToNat, Int.reduceNeg, Int.reduceEq, ↓reduceIte, reduceCtorEq, ↓reduceDIte]
  | true =>
    rw [hs] at h1
    obtain ⟨s1, s2, s3, s4, s5⟩ := spec_tab hs
    cases ha : addrB p with
    | false =>
      rw [ha] at h3
      rw [if_neg (by simp [hasE, ha])]
      simp -implicitDefEqProofs only [h1, h3, go_sem, Nat.reduceAdd, Nat.reduceSub, Nat.reduceMul, Nat.reduceMod, Nat.reduceLT, Nat.reduceLeDiff, Nat.reduceEqDiff, Nat.reduceBEq, Nat.reduceDiv, Int.reduceLT, Int.reduceLE, Int.reduceToNat, Int.reduceNeg, Int.reduceEq, ↓reduceIte, reduceCtorEq, ↓reduceDIte]
    | true =>
      rw [ha] at h3
      have h4 := call_wk r t b p ha s1 s4 s3
      by_cases hf : (walkS r t p).1 < 0
      · rw [if_neg (by simp only [hasE, hs, ha, Bool.true_and, decide_eq_true_eq]; omega)]
        simp -implicitDefEqProofs only [h1, h3, h4, tr hf, go_sem, Nat.reduceAdd, Nat.reduceSub, Nat.reduceMul, Nat.reduceMod, Nat.reduceLT, Nat.reduceLeDiff, Nat.reduceEqDiff, Nat.reduceBEq, Nat.reduceDiv, Int.reduceLT, Int.reduceLE, Int.reduceToNat, Int.reduceNeg, Int.reduceEq, ↓reduceIte, reduceCtorEq, ↓reduceDIte]
      · have hh : hasE r t b p = true := by simp only [hasE, hs, ha, Bool.true_and, decide_eq_true_eq]; omega
        obtain ⟨k1, k2, k3, k4, k5⟩ := hasE_facts hh
        have h5 := call_pu r t b p ha s1 s4 s3 hb (by omega) k4 (-1) false false false
        have h6 := call_em
        rw [if_pos hh]
        simp -implicitDefEqProofs only [h1, h3, h4, fa hf, h6, emptyEn, h5, go_sem, Nat.reduceAdd, Nat.reduceSub, Nat.reduceMul, Nat.reduceMod, Nat.reduceLT, Nat.reduceLeDiff, Nat.reduceEqDiff, Nat.reduceBEq, Nat.reduceDiv, Int.reduceLT, Int.reduceLE, Int.reduceToNat, Int.reduceNeg, Int.reduceEq, ↓reduceIte, reduceCtorEq, ↓reduceDIte]
theorem call_sp (r : List Int) (t : List (List En)) (b : List Ca) (p : Int) (v : Bool) (hb : b.length < 2000000) : callOf pr 22 [.agg [L r, LLE t, LC b], I p, B v] [] = if hasE r t b p = true then some (.tuple [.agg [.os (.t 1856), .os (.t 1858), .os (.t 1857)], B true], [(1856, .arr true false (.int .i64) r), (1857, .arr true false tyC b), (1858, .arr true true (.slice tyE) (putT r t p ((walkS r t p).1, v, (walkS r t p).2.2)))]) else some (.tuple [.agg [.nilS, .nilS, .nilS], B false], []) := by
  have h1 := call_si r t b
  have h3 := call_ad p
  rw [call_eq pr 22 _ _ Try.f22 fn_22 _ rfl _ ann_22 rfl]
  cases hs : specS r t b with
  | false =>
    rw [hs] at h1
    rw [if_neg (by simp [hasE, hs])]
    simp -implicitDefEqProofs only [h1, go_sem, Nat.reduceAdd, Nat.reduceSub, Nat.reduceMul, Nat.reduceMod, Nat.reduceLT, Nat.reduceLeDiff, Nat.reduceEqDiff, Nat.reduceBEq, Nat.reduceDiv, Int.reduceLT, Int.reduceLE, Int.reduceToNat, Int.reduceNeg, Int.reduceEq, ↓reduceIte, reduceCtorEq, ↓reduceDIte]
  | true =>
    rw [hs] at h1
    obtain ⟨s1, s2, s3, s4, s5⟩ := spec_tab hs
    cases ha : addrB p with
    | false =>
      rw [ha] at h3
      rw [if_neg (by simp [hasE, ha])]
      simp -implicitDefEqProofs only [h1, h3, go_sem, Nat.reduceAdd, Nat.reduceSub, Nat.reduceMul, Nat.reduceMod, Nat.reduceLT, Nat.reduceLeDiff, Nat.reduceEqDiff, Nat.reduceBEq, Nat.reduceDiv, Int.reduceLT, Int.reduceLE, Int.reduceToNat, Int.reduceNeg, Int.reduceEq, ↓reduceIte, reduceCtorEq, ↓reduceDIte]
    | true =>
      rw [ha] at h3
      have h4 := call_wk r t b p ha s1 s4 s3
      by_cases hf : (walkS r t p).1 < 0
      · rw [if_neg (by simp only [hasE, hs, ha, Bool.true_and, decide_eq_true_eq]; omega)]
        simp -implicitDefEqProofs only [h1, h3, h4, tr hf, go_sem, Nat.reduceAdd, Nat.reduceSub, Nat.reduceMul, Nat.reduceMod, Nat.reduceLT, Nat.reduceLeDiff, Nat.reduceEqDiff, Nat.reduceBEq, Nat.reduceDiv, Int.reduceLT, Int.reduceLE, Int.reduceToNat, Int.reduceNeg, Int.reduceEq, ↓reduceIte, reduceCtorEq, ↓reduceDIte]
      · have hh : hasE r t b p = true := by simp only [hasE, hs, ha, Bool.true_and, decide_eq_true_eq]; omega
        obtain ⟨k1, k2, k3, k4, k5⟩ := hasE_facts hh
        have h5 := call_pu r t b p ha s1 s4 s3 hb (by omega) k4 (walkS r t p).1 v (walkS r t p).2.2.1 (walkS r t p).2.2.2.1
        rw [if_pos hh]
        simp -implicitDefEqProofs only [h1, h3, h4, fa hf, h5, go_sem, Nat.reduceAdd, Nat.reduceSub, Nat.reduceMul, Nat.reduceMod, Nat.reduceLT, Nat.reduceLeDiff, Nat.reduceEqDiff, Nat.reduceBEq, Nat.reduceDiv, Int.reduceLT, Int.reduceLE, Int.reduceToNat, Int.reduceNeg, Int.reduceEq, ↓reduceIte, reduceCtorEq, ↓reduceDIte]
/-! the program's -/
theorem call_u1 (row : List En) (q : Nat) (hq : q < row.length) : callOf pr 58 [.el (.t 1000000) q 0] [(1000000, .arr false false tyE row)] = some (.tuple [], [(1000000, .arr false false tyE (row.set q emptyEn))]) := by
  have q1 : (q < row.length) = True := tr hq
  rw [call_eq pr 58 _ _ Try.f58 fn_58 _ rfl _ ann_58 rfl]
  simp -implicitDefEqProofs only [q1, go_sem, Nat.reduceAdd, Nat.reduceSub, Nat.reduceMul, Nat.reduceMod, Nat.reduceLT, Nat.reduceLeDiff, Nat.reduceEqDiff, Nat.reduceBEq, Nat.reduceDiv, Int.reduceLT, Int.reduceLE, Int.reduceToNat, Int.reduceNeg, Int.reduceEq, ↓reduceIte, reduceCtorEq, ↓reduceDIte]
  rfl
theorem call_p1 (v : Bool) (row : List En) (q : Nat) (hq : q < row.length) : callOf pr 59 [.el (.t 1000000) q 0, .rp [B v]] [(1000000, .arr false false tyE row)] = some (.tuple [], [(1000000, .arr false false tyE (row.set q ((row.getD q (0, false, false, false, ())).1, v, (row.getD q (0, false, false, false, ())).2.2)))]) := by
  have q1 : (q < row.length) = True := tr hq
  rw [call_eq pr 59 _ _ Try.f59 fn_59 _ rfl _ ann_59 rfl]
  simp -implicitDefEqProofs only [q1, go_sem, Nat.reduceAdd, Nat.reduceSub, Nat.reduceMul, Nat.reduceMod, Nat.reduceLT, Nat.reduceLeDiff, Nat.reduceEqDiff, Nat.reduceBEq, Nat.reduceDiv, Int.reduceLT, Int.reduceLE, Int.reduceToNat, Int.reduceNeg, Int.reduceEq, ↓reduceIte, reduceCtorEq, ↓reduceDIte]
theorem walk_row {r : List Int} {t : List (List En)} {p : Int} (h0 : ¬ rootAt r p < 0) : (rowAt r t p).getD (pgJ p) (0, false, false, false, ()) = walkS r t p := (if_neg h0).symm
theorem call_chu (r : List Int) (t : List (List En)) (b : List Ca) (p : Int) (hr : r.length < 2000000) (ht : t.length < 2000000) (hx : ∀ x ∈ t, x.length < 2000000) (hb : b.length < 2000000) : if hasE r t b p = true then
      (b = [] ∧ callOf pr 57 [.agg [L r, LLE t, LC b], I p, .fn 58 []] [] = some (.tuple [.agg [.os (.t 1344), .os (.t 1345), .empS], B true], [(1344, .arr true false (.int .i64) r), (1345, .arr true true (.slice tyE) (putT r t p (emptyEn)))])) ∨
      (callOf pr 57 [.agg [L r, LLE t, LC b], I p, .fn 58 []] [] = some (.tuple [.agg [.os (.t 1344), .os (.t 1346), .os (.t 1345)], B true], [(1344, .arr true false (.int .i64) r), (1345, .arr true false tyC b), (1346, .arr true true (.slice tyE) (putT r t p (emptyEn)))]))
    else callOf pr 57 [.agg [L r, LLE t, LC b], I p, .fn 58 []] [] = some (.tuple [.agg [.nilS, .nilS, .nilS], B false], []) := by
  have h1 := call_ip r t b p hr ht hx hb
  cases hs : (specS r t b && addrB p) with
  | false =>
    rw [hs] at h1
    rw [if_neg (by simp only [hasE, hs, Bool.false_and]; decide)]
    rw [call_eq pr 57 _ _ Try.f57 fn_57 _ rfl _ ann_57 rfl]
    simp -implicitDefEqProofs only [h1, go_sem, Nat.reduceAdd, Nat.reduceSub, Nat.reduceMul, Nat.reduceMod, Nat.reduceLT, Nat.reduceLeDiff, Nat.reduceEqDiff, Nat.reduceBEq, Nat.reduceDiv, Int.reduceLT, Int.reduceLE, Int.reduceToNat, Int.reduceNeg, Int.reduceEq, ↓reduceIte, reduceCtorEq, ↓reduceDIte]
  | true =>
    rw [hs] at h1
    have hs' := hs
    rw [Bool.and_eq_true] at hs'
    obtain ⟨s1, s2, s3, s4, s5⟩ := spec_tab hs'.1
    have h2 := call_mp r t b p hs'.2 s1 s4 s3
    by_cases hf : (walkS r t p).1 < 0
    · rw [if_neg (by simp only [hasE, hs, Bool.true_and, decide_eq_true_eq]; omega)]
      rw [if_pos hf] at h2
      rw [call_eq pr 57 _ _ Try.f57 fn_57 _ rfl _ ann_57 rfl]
      simp -implicitDefEqProofs only [h1, h2, go_sem, Nat.reduceAdd, Nat.reduceSub, Nat.reduceMul, Nat.reduceMod, Nat.reduceLT, Nat.reduceLeDiff, Nat.reduceEqDiff, Nat.reduceBEq, Nat.reduceDiv, Int.reduceLT, Int.reduceLE, Int.reduceToNat, Int.reduceNeg, Int.reduceEq, ↓reduceIte, reduceCtorEq, ↓reduceDIte]
    · have hh : hasE r t b p = true := by simp only [hasE, hs, Bool.true_and, decide_eq_true_eq]; omega
      obtain ⟨k1, k2, k3, k4, k5⟩ := hasE_facts hh
      obtain ⟨_, _, hi, hj⟩ := page_facts k2
      obtain ⟨g1, g2, g3⟩ := root_facts s1 hi s4 s3 k4
      rw [if_neg hf] at h2
      rw [if_pos hh]
      have h5 := call_u1 (rowAt r t p) (pgJ p) (by omega)
      have j3 : ((rootAt r p).toNat < t.length) = True := tr g1
      have hrow : t.getD (rootAt r p).toNat [] = rowAt r t p := rfl
      have hput : t.set (rootAt r p).toNat ((rowAt r t p).set (pgJ p) (emptyEn)) = putT r t p (emptyEn) := rfl
      rcases clone4 r t b s1 hb (by omega) s3 with ⟨e, _, h3⟩ | ⟨e, h3⟩ | ⟨e, ht0, h3⟩ | ⟨ht0, h3⟩
      · exact absurd e k5
      · exact absurd e k5
      · refine .inl ⟨e, ?_⟩
        have h4 := call_eno0 r t b p k2 s1 s4 s3 k4
        rw [call_eq pr 57 _ _ Try.f57 fn_57 _ rfl _ ann_57 rfl]
        simp -implicitDefEqProofs only [h1, h2, h3, h4, j3, hrow, h5, hput, go_sem, Nat.reduceAdd, Nat.reduceSub, Nat.reduceMul, Nat.reduceMod, Nat.reduceLT, Nat.reduceLeDiff, Nat.reduceEqDiff, Nat.reduceBEq, Nat.reduceDiv, Int.reduceLT, Int.reduceLE, Int.reduceToNat, Int.reduceNeg, Int.reduceEq, ↓reduceIte, reduceCtorEq, ↓reduceDIte]
      · refine .inr ?_
        have h4 := call_eno1 r t b p k2 s1 s4 s3 k4
        rw [call_eq pr 57 _ _ Try.f57 fn_57 _ rfl _ ann_57 rfl]
        simp -implicitDefEqProofs only [h1, h2, h3, h4, j3, hrow, h5, hput, go_sem, Nat.reduceAdd, Nat.reduceSub, Nat.reduceMul, Nat.reduceMod, Nat.reduceLT, Nat.reduceLeDiff, Nat.reduceEqDiff, Nat.reduceBEq, Nat.reduceDiv, Int.reduceLT, Int.reduceLE, Int.reduceToNat, Int.reduceNeg, Int.reduceEq, ↓reduceIte, reduceCtorEq, ↓reduceDIte]
theorem call_chp (v : Bool)(r : List Int) (t : List (List En)) (b : List Ca) (p : Int) (hr : r.length < 2000000) (ht : t.length < 2000000) (hx : ∀ x ∈ t, x.length < 2000000) (hb : b.length < 2000000) : if hasE r t b p = true then
      (b = [] ∧ callOf pr 57 [.agg [L r, LLE t, LC b], I p, .fn 59 [.rp [B v]]] [] = some (.tuple [.agg [.os (.t 1344), .os (.t 1345), .empS], B true], [(1344, .arr true false (.int .i64) r), (1345, .arr true true (.slice tyE) (putT r t p ((walkS r t p).1, v, (walkS r t p).2.2)))])) ∨
      (callOf pr 57 [.agg [L r, LLE t, LC b], I p, .fn 59 [.rp [B v]]] [] = some (.tuple [.agg [.os (.t 1344), .os (.t 1346), .os (.t 1345)], B true], [(1344, .arr true false (.int .i64) r), (1345, .arr true false tyC b), (1346, .arr true true (.slice tyE) (putT r t p ((walkS r t p).1, v, (walkS r t p).2.2)))]))
    else callOf pr 57 [.agg [L r, LLE t, LC b], I p, .fn 59 [.rp [B v]]] [] = some (.tuple [.agg [.nilS, .nilS, .nilS], B false], []) := by
  have h1 := call_ip r t b p hr ht hx hb
  cases hs : (specS r t b && addrB p) with
  | false =>
    rw [hs] at h1
    rw [if_neg (by simp only [hasE, hs, Bool.false_and]; decide)]
    rw [call_eq pr 57 _ _ Try.f57 fn_57 _ rfl _ ann_57 rfl]
    simp -implicitDefEqProofs only [h1, go_sem, Nat.reduceAdd, Nat.reduceSub, Nat.reduceMul, Nat.reduceMod, Nat.reduceLT, Nat.reduceLeDiff, Nat.reduceEqDiff, Nat.reduceBEq, Nat.reduceDiv, Int.reduceLT, Int.reduceLE, Int.reduceToNat, Int.reduceNeg, Int.reduceEq, ↓reduceIte, reduceCtorEq, ↓reduceDIte]
  | true =>
    rw [hs] at h1
    have hs' := hs
    rw [Bool.and_eq_true] at hs'
    obtain ⟨s1, s2, s3, s4, s5⟩ := spec_tab hs'.1
    have h2 := call_mp r t b p hs'.2 s1 s4 s3
    by_cases hf : (walkS r t p).1 < 0
    · rw [if_neg (by simp only [hasE, hs, Bool.true_and, decide_eq_true_eq]; omega)]
      rw [if_pos hf] at h2
      rw [call_eq pr 57 _ _ Try.f57 fn_57 _ rfl _ ann_57 rfl]
      simp -implicitDefEqProofs only [h1, h2, go_sem, Nat.reduceAdd, Nat.reduceSub, Nat.reduceMul, Nat.reduceMod, Nat.reduceLT, Nat.reduceLeDiff, Nat.reduceEqDiff, Nat.reduceBEq, Nat.reduceDiv, Int.reduceLT, Int.reduceLE, Int.reduceToNat, Int.reduceNeg, Int.reduceEq, ↓reduceIte, reduceCtorEq, ↓reduceDIte]
    · have hh : hasE r t b p = true := by simp only [hasE, hs, Bool.true_and, decide_eq_true_eq]; omega
      obtain ⟨k1, k2, k3, k4, k5⟩ := hasE_facts hh
      obtain ⟨_, _, hi, hj⟩ := page_facts k2
      obtain ⟨g1, g2, g3⟩ := root_facts s1 hi s4 s3 k4
      rw [if_neg hf] at h2
      rw [if_pos hh]
      have h5 := call_p1 v (rowAt r t p) (pgJ p) (by omega); rw [walk_row k4] at h5
      have j3 : ((rootAt r p).toNat < t.length) = True := tr g1
      have hrow : t.getD (rootAt r p).toNat [] = rowAt r t p := rfl
      have hput : t.set (rootAt r p).toNat ((rowAt r t p).set (pgJ p) ((walkS r t p).1, v, (walkS r t p).2.2)) = putT r t p ((walkS r t p).1, v, (walkS r t p).2.2) := rfl
      rcases clone4 r t b s1 hb (by omega) s3 with ⟨e, _, h3⟩ | ⟨e, h3⟩ | ⟨e, ht0, h3⟩ | ⟨ht0, h3⟩
      · exact absurd e k5
      · exact absurd e k5
      · refine .inl ⟨e, ?_⟩
        have h4 := call_eno0 r t b p k2 s1 s4 s3 k4
        rw [call_eq pr 57 _ _ Try.f57 fn_57 _ rfl _ ann_57 rfl]
        simp -implicitDefEqProofs only [h1, h2, h3, h4, j3, hrow, h5, hput, go_sem, Nat.reduceAdd, Nat.reduceSub, Nat.reduceMul, Nat.reduceMod, Nat.reduceLT, Nat.reduceLeDiff, Nat.reduceEqDiff, Nat.reduceBEq, Nat.reduceDiv, Int.reduceLT, Int.reduceLE, Int.reduceToNat, Int.reduceNeg, Int.reduceEq, ↓reduceIte, reduceCtorEq, ↓reduceDIte]
      · refine .inr ?_
        have h4 := call_eno1 r t b p k2 s1 s4 s3 k4
        rw [call_eq pr 57 _ _ Try.f57 fn_57 _ rfl _ ann_57 rfl]
        simp -implicitDefEqProofs only [h1, h2, h3, h4, j3, hrow, h5, hput, go_sem, Nat.reduceAdd, Nat.reduceSub, Nat.reduceMul, Nat.reduceMod, Nat.reduceLT, Nat.reduceLeDiff, Nat.reduceEqDiff, Nat.reduceBEq, Nat.reduceDiv, Int.reduceLT, Int.reduceLE, Int.reduceToNat, Int.reduceNeg, Int.reduceEq, ↓reduceIte, reduceCtorEq, ↓reduceDIte]
theorem call_iu (r : List Int) (t : List (List En)) (b : List Ca) (p : Int) (hr : r.length < 2000000) (ht : t.length < 2000000) (hx : ∀ x ∈ t, x.length < 2000000) (hb : b.length < 2000000) : if hasE r t b p = true then
      (b = [] ∧ callOf pr 21 [.agg [L r, LLE t, LC b], I p] [] = some (.tuple [.agg [.os (.t 512), .os (.t 513), .empS], B true], [(512, .arr true false (.int .i64) r), (513, .arr true true (.slice tyE) (putT r t p emptyEn))])) ∨
      (callOf pr 21 [.agg [L r, LLE t, LC b], I p] [] = some (.tuple [.agg [.os (.t 512), .os (.t 514), .os (.t 513)], B true], [(512, .arr true false (.int .i64) r), (513, .arr true false tyC b), (514, .arr true true (.slice tyE) (putT r t p emptyEn))]))
    else callOf pr 21 [.agg [L r, LLE t, LC b], I p] [] = some (.tuple [.agg [.nilS, .nilS, .nilS], B false], []) := by
  have h := call_chu r t b p hr ht hx hb
  rw [call_eq pr 21 _ _ Try.f21 fn_21 _ rfl _ ann_21 rfl]
  cases hh : hasE r t b p with
  | false =>
    rw [hh, if_neg (by simp)] at h
    rw [if_neg (by simp)]
    simp -implicitDefEqProofs only [h, go_sem, Nat.reduceAdd, Nat.reduceSub, Nat.reduceMul, Nat.reduceMod, Nat.reduceLT, Nat.reduceLeDiff, Nat.reduceEqDiff, Nat.reduceBEq, Nat.reduceDiv, Int.reduceLT, Int.reduceLE, Int.reduceToNat, Int.reduceNeg, Int.reduceEq, ↓reduceIte, reduceCtorEq, ↓reduceDIte]
  | true =>
    rw [hh, if_pos rfl] at h
    rw [if_pos rfl]
    rcases h with ⟨e, h⟩ | h
    · refine .inl ⟨e, ?_⟩
      simp -implicitDefEqProofs only [h, go_sem, Nat.reduceAdd, Nat.reduceSub, Nat.reduceMul, Nat.reduceMod, Nat.reduceLT, Nat.reduceLeDiff, Nat.reduceEqDiff, Nat.reduceBEq, Nat.reduceDiv, Int.reduceLT, Int.reduceLE, Int.reduceToNat, Int.reduceNeg, Int.reduceEq, ↓reduceIte, reduceCtorEq, ↓reduceDIte]
    · refine .inr ?_
      simp -implicitDefEqProofs only [h, go_sem, Nat.reduceAdd, Nat.reduceSub, Nat.reduceMul, Nat.reduceMod, Nat.reduceLT, Nat.reduceLeDiff, Nat.reduceEqDiff, Nat.reduceBEq, Nat.reduceDiv, Int.reduceLT, Int.reduceLE, Int.reduceToNat, Int.reduceNeg, Int.reduceEq, ↓reduceIte, reduceCtorEq, ↓reduceDIte]
theorem call_ipp (r : List Int) (t : List (List En)) (b : List Ca) (p : Int) (v : Bool) (hr : r.length < 2000000) (ht : t.length < 2000000) (hx : ∀ x ∈ t, x.length < 2000000) (hb : b.length < 2000000) : if hasE r t b p = true then
      (b = [] ∧ callOf pr 23 [.agg [L r, LLE t, LC b], I p, B v] [] = some (.tuple [.agg [.os (.t 704), .os (.t 705), .empS], B true], [(704, .arr true false (.int .i64) r), (705, .arr true true (.slice tyE) (putT r t p ((walkS r t p).1, v, (walkS r t p).2.2)))])) ∨
      (callOf pr 23 [.agg [L r, LLE t, LC b], I p, B v] [] = some (.tuple [.agg [.os (.t 704), .os (.t 706), .os (.t 705)], B true], [(704, .arr true false (.int .i64) r), (705, .arr true false tyC b), (706, .arr true true (.slice tyE) (putT r t p ((walkS r t p).1, v, (walkS r t p).2.2)))]))
    else callOf pr 23 [.agg [L r, LLE t, LC b], I p, B v] [] = some (.tuple [.agg [.nilS, .nilS, .nilS], B false], []) := by
  have h := call_chp v r t b p hr ht hx hb
  rw [call_eq pr 23 _ _ Try.f23 fn_23 _ rfl _ ann_23 rfl]
  cases hh : hasE r t b p with
  | false =>
    rw [hh, if_neg (by simp)] at h
    rw [if_neg (by simp)]
    simp -implicitDefEqProofs only [h, go_sem, Nat.reduceAdd, Nat.reduceSub, Nat.reduceMul, Nat.reduceMod, Nat.reduceLT, Nat.reduceLeDiff, Nat.reduceEqDiff, Nat.reduceBEq, Nat.reduceDiv, Int.reduceLT, Int.reduceLE, Int.reduceToNat, Int.reduceNeg, Int.reduceEq, ↓reduceIte, reduceCtorEq, ↓reduceDIte]
  | true =>
    rw [hh, if_pos rfl] at h
    rw [if_pos rfl]
    rcases h with ⟨e, h⟩ | h
    · refine .inl ⟨e, ?_⟩
      simp -implicitDefEqProofs only [h, go_sem, Nat.reduceAdd, Nat.reduceSub, Nat.reduceMul, Nat.reduceMod, Nat.reduceLT, Nat.reduceLeDiff, Nat.reduceEqDiff, Nat.reduceBEq, Nat.reduceDiv, Int.reduceLT, Int.reduceLE, Int.reduceToNat, Int.reduceNeg, Int.reduceEq, ↓reduceIte, reduceCtorEq, ↓reduceDIte]
    · refine .inr ?_
      simp -implicitDefEqProofs only [h, go_sem, Nat.reduceAdd, Nat.reduceSub, Nat.reduceMul, Nat.reduceMod, Nat.reduceLT, Nat.reduceLeDiff, Nat.reduceEqDiff, Nat.reduceBEq, Nat.reduceDiv, Int.reduceLT, Int.reduceLE, Int.reduceToNat, Int.reduceNeg, Int.reduceEq, ↓reduceIte, reduceCtorEq, ↓reduceDIte]
end Go.Proofs.Yticpldfkjldepaa.PI
