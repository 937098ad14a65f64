/- Empty tables. -/
import Derived.Test.YticpldfkjldepaaGreatN2
namespace Go.Proofs.YticpldfkjldepaaGreat.PI
open Go Go.Q
set_option maxRecDepth 100000
set_option maxHeartbeats 4000000
set_option linter.unusedSimpArgs false
set_option linter.unusedVariables false
def tab8 : List En := [emptyEn, emptyEn, emptyEn, emptyEn, emptyEn, emptyEn, emptyEn, emptyEn]
abbrev U (n : Int) : AV := .d (.int .u64) n
theorem call_m64 : callOf pr 150 [U 1, U 8] [] = some (.tuple [U 0, U 8], []) := by
  have b1 : bitsOf .and .u64 1 4294967295 = 1 := by decide
  have b2 : bitsOf .and .u64 8 4294967295 = 8 := by decide
  have b3 : bitsOf .and .u64 0 4294967295 = 0 := by decide
  rw [call_eq pr 150 _ _ Tryz.f150 fn_150 _ rfl _ ann_150 rfl]
  simp -implicitDefEqProofs only [b1, b2, b3, go_sem, Nat.reduceAdd, Nat.reduceSub, Nat.reduceMul, Nat.reduceMod, Nat.reduceLT, Nat.reduceLeDiff, Nat.reduceEqDiff, Nat.reduceBEq, Nat.reduceDiv, Int.reduceLT, Int.reduceLE, Int.reduceToNat, Int.reduceNeg, Int.reduceEq, ↓reduceIte, reduceCtorEq, ↓reduceDIte]
  rfl
theorem call_mul : callOf pr 143 [U 1, U 8] [] = some (.tuple [U 0, U 8], []) := by
  rw [call_eq pr 143 _ _ Tryz.f143 fn_143 _ rfl _ ann_143 rfl]
  simp -implicitDefEqProofs only [call_m64, go_sem, Nat.reduceAdd, Nat.reduceSub, Nat.reduceMul, Nat.reduceMod, Nat.reduceLT, Nat.reduceLeDiff, Nat.reduceEqDiff, Nat.reduceBEq, Nat.reduceDiv, Int.reduceLT, Int.reduceLE, Int.reduceToNat, Int.reduceNeg, Int.reduceEq, ↓reduceIte, reduceCtorEq, ↓reduceDIte]
/-- The row that is doubled. -/
def rep8 (n : Nat) : List En := List.replicate n emptyEn ++ List.replicate (8 - n) (0, false, false, false, ())
theorem loop_rep : loopOf pr 125 0 ⟨[(7, .os (.t 1920)), (8, I 1)], [(1920, .arr true false tyE (rep8 1))]⟩ = some (.exit 0, ⟨[(7, .os (.t 1920)), (8, I 8)], [(1920, .arr true false tyE tab8)]⟩) := by
  have v2 : IntKind.i64.wrap 2 = 2 := by decide
  have v4 : IntKind.i64.wrap 4 = 4 := by decide
  have v8 : IntKind.i64.wrap 8 = 8 := by decide
  simp only [rep8, tab8, emptyEn]
  rw [loop_eq pr 125 0 _ Tryz.f125 fn_125 _ rfl _ ann_125 _ rfl]
  simp -implicitDefEqProofs only [Int.reduceMul, Int.reduceAdd, Int.reduceSub, Int.reduceNeg, Int.natCast_zero, Int.cast_ofNat_Int, Int.toNat_natCast, List.replicate, copyIn, Int.reduceLT, Nat.min_def, Int.natCast_one, Nat.le_refl, Int.le_refl, Nat.zero_add, Nat.add_zero, Nat.sub_zero, v2, v4, v8, go_sem, Nat.reduceAdd, Nat.reduceSub, Nat.reduceMul, Nat.reduceMod, Nat.reduceLT, Nat.reduceLeDiff, Nat.reduceEqDiff, Nat.reduceBEq, Nat.reduceDiv, Int.reduceLT, Int.reduceLE, Int.reduceToNat, Int.reduceNeg, Int.reduceEq, ↓reduceIte, reduceCtorEq, ↓reduceDIte]
  rw [loop_eq pr 125 0 _ Tryz.f125 fn_125 _ rfl _ ann_125 _ rfl]
  simp -implicitDefEqProofs only [Int.reduceMul, Int.reduceAdd, Int.reduceSub, Int.reduceNeg, Int.natCast_zero, Int.cast_ofNat_Int, Int.toNat_natCast, List.replicate, copyIn, Int.reduceLT, Nat.min_def, Int.natCast_one, Nat.le_refl, Int.le_refl, Nat.zero_add, Nat.add_zero, Nat.sub_zero, v2, v4, v8, go_sem, Nat.reduceAdd, Nat.reduceSub, Nat.reduceMul, Nat.reduceMod, Nat.reduceLT, Nat.reduceLeDiff, Nat.reduceEqDiff, Nat.reduceBEq, Nat.reduceDiv, Int.reduceLT, Int.reduceLE, Int.reduceToNat, Int.reduceNeg, Int.reduceEq, ↓reduceIte, reduceCtorEq, ↓reduceDIte]
  rw [loop_eq pr 125 0 _ Tryz.f125 fn_125 _ rfl _ ann_125 _ rfl]
  simp -implicitDefEqProofs only [Int.reduceMul, Int.reduceAdd, Int.reduceSub, Int.reduceNeg, Int.natCast_zero, Int.cast_ofNat_Int, Int.toNat_natCast, List.replicate, copyIn, Int.reduceLT, Nat.min_def, Int.natCast_one, Nat.le_refl, Int.le_refl, Nat.zero_add, Nat.add_zero, Nat.sub_zero, v2, v4, v8, go_sem, Nat.reduceAdd, Nat.reduceSub, Nat.reduceMul, Nat.reduceMod, Nat.reduceLT, Nat.reduceLeDiff, Nat.reduceEqDiff, Nat.reduceBEq, Nat.reduceDiv, Int.reduceLT, Int.reduceLE, Int.reduceToNat, Int.reduceNeg, Int.reduceEq, ↓reduceIte, reduceCtorEq, ↓reduceDIte]
  rw [loop_eq pr 125 0 _ Tryz.f125 fn_125 _ rfl _ ann_125 _ rfl]
  simp -implicitDefEqProofs only [Int.reduceMul, Int.reduceAdd, Int.reduceSub, Int.reduceNeg, Int.natCast_zero, Int.cast_ofNat_Int, Int.toNat_natCast, List.replicate, copyIn, Int.reduceLT, Nat.min_def, Int.natCast_one, Nat.le_refl, Int.le_refl, Nat.zero_add, Nat.add_zero, Nat.sub_zero, v2, v4, v8, go_sem, Nat.reduceAdd, Nat.reduceSub, Nat.reduceMul, Nat.reduceMod, Nat.reduceLT, Nat.reduceLeDiff, Nat.reduceEqDiff, Nat.reduceBEq, Nat.reduceDiv, Int.reduceLT, Int.reduceLE, Int.reduceToNat, Int.reduceNeg, Int.reduceEq, ↓reduceIte, reduceCtorEq, ↓reduceDIte]
theorem call_rep : callOf pr 125 [.d (.slice tyE) [emptyEn], I 8] [] = some (.os (.t 1920), [(1920, .arr true false tyE tab8)]) := by
  have h := loop_rep
  simp only [rep8, List.replicate, emptyEn, List.cons_append, List.nil_append] at h
  have w1 : IntKind.u64.wrap 1 = 1 := by decide
  have w8 : IntKind.u64.wrap 8 = 8 := by decide
  have v8 : IntKind.i64.wrap 8 = 8 := by decide
  simp only [emptyEn]
  rw [call_eq pr 125 _ _ Tryz.f125 fn_125 _ rfl _ ann_125 rfl]
  simp -implicitDefEqProofs only [Int.reduceMul, Int.reduceAdd, Int.reduceSub, Int.reduceNeg, Int.natCast_zero, Int.cast_ofNat_Int, Int.toNat_natCast, List.replicate, copyIn, Int.reduceLT, Nat.min_def, Int.natCast_one, Nat.le_refl, Int.le_refl, Nat.zero_add, Nat.add_zero, Nat.sub_zero, call_mul, w1, w8, v8, h, go_sem, Nat.reduceAdd, Nat.reduceSub, Nat.reduceMul, Nat.reduceMod, Nat.reduceLT, Nat.reduceLeDiff, Nat.reduceEqDiff, Nat.reduceBEq, Nat.reduceDiv, Int.reduceLT, Int.reduceLE, Int.reduceToNat, Int.reduceNeg, Int.reduceEq, ↓reduceIte, reduceCtorEq, ↓reduceDIte]
theorem call_et : callOf pr 76 [] [] = some (.os (.t 192), [(192, .arr true false tyE tab8)]) := by
  have h := call_rep
  simp only [emptyEn] at h
  rw [call_eq pr 76 _ _ Tryz.f76 fn_76 _ rfl _ ann_76 rfl]
  simp -implicitDefEqProofs only [h, go_sem, Nat.reduceAdd, Nat.reduceSub, Nat.reduceMul, Nat.reduceMod, Nat.reduceLT, Nat.reduceLeDiff, Nat.reduceEqDiff, Nat.reduceBEq, Nat.reduceDiv, Int.reduceLT, Int.reduceLE, Int.reduceToNat, Int.reduceNeg, Int.reduceEq, ↓reduceIte, reduceCtorEq, ↓reduceDIte]
theorem loop_st : ∀ (n k : Nat), k + n = 8 → loopOf pr 66 0 ⟨[(1, .os (.t 192)), (2, I k)], [(192, .arr true false tyE (List.replicate k emptyEn))]⟩ = some (.exit 0, ⟨[(1, .os (.t 192)), (2, I 8)], [(192, .arr true false tyE (List.replicate 8 emptyEn))]⟩)
  | 0, k, h => by
    have hk : k = 8 := by omega
    subst hk
    rw [loop_eq pr 66 0 _ Tryz.f66 fn_66 _ rfl _ ann_66 _ rfl]
    simp -implicitDefEqProofs only [Int.cast_ofNat_Int, go_sem, Nat.reduceAdd, Nat.reduceSub, Nat.reduceMul, Nat.reduceMod, Nat.reduceLT, Nat.reduceLeDiff, Nat.reduceEqDiff, Nat.reduceBEq, Nat.reduceDiv, Int.reduceLT, Int.reduceLE, Int.reduceToNat, Int.reduceNeg, Int.reduceEq, ↓reduceIte, reduceCtorEq, ↓reduceDIte]
  | n + 1, k, h => by
    have ih := loop_st n (k + 1) (by omega)
    have hk : ((k : Int) < 8) = True := tr (by omega)
    have hw : IntKind.i64.wrap ((k : Int) + 1) = ((k + 1 : Nat) : Int) := by rw [wrap_i] <;> omega
    have hroom : ((k + 1) * 16 ≤ 140737488355328 ∧ k ≤ 9223372036854775806) = True := tr (by omega)
    have hl : (List.replicate k emptyEn).length = k := by simp
    have hr : List.replicate k emptyEn ++ [emptyEn] = List.replicate (k + 1) emptyEn := (List.replicate_succ').symm
    have he : callOf pr 97 [] [] = some (agE emptyEn, []) := call_em
    rw [loop_eq pr 66 0 _ Tryz.f66 fn_66 _ rfl _ ann_66 _ rfl]
    simp -implicitDefEqProofs only [hk, he, hl, hroom, hw, go_sem, Nat.reduceAdd, Nat.reduceSub, Nat.reduceMul, Nat.reduceMod, Nat.reduceLT, Nat.reduceLeDiff, Nat.reduceEqDiff, Nat.reduceBEq, Nat.reduceDiv, Int.reduceLT, Int.reduceLE, Int.reduceToNat, Int.reduceNeg, Int.reduceEq, ↓reduceIte, reduceCtorEq, ↓reduceDIte]
    exact (congrArg (fun z => loopOf pr 66 0 ⟨[(1, .os (.t 192)), (2, I ((k + 1 : Nat) : Int))], [(192, .arr true false tyE z)]⟩) hr).trans ih
theorem call_st8 : callOf pr 66 [] [] = some (.os (.t 192), [(192, .arr true false tyE tab8)]) := by
  have h := loop_st 8 0 rfl
  have h : loopOf pr 66 0 ⟨[(1, .os (.t 192)), (2, I 0)], [(192, .arr true false tyE [])]⟩ = some (.exit 0, ⟨[(1, .os (.t 192)), (2, I 8)], [(192, .arr true false tyE tab8)]⟩) := h
  rw [call_eq pr 66 _ _ Tryz.f66 fn_66 _ rfl _ ann_66 rfl]
  simp -implicitDefEqProofs only [h, go_sem, Nat.reduceAdd, Nat.reduceSub, Nat.reduceMul, Nat.reduceMod, Nat.reduceLT, Nat.reduceLeDiff, Nat.reduceEqDiff, Nat.reduceBEq, Nat.reduceDiv, Int.reduceLT, Int.reduceLE, Int.reduceToNat, Int.reduceNeg, Int.reduceEq, ↓reduceIte, reduceCtorEq, ↓reduceDIte]
theorem loop_124 (v : Int) (xs : List Int) (hb : xs.length < 1000000000000000000) : ∀ (n k : Nat), k + n = xs.length →
    loopOf pr 124 0 ⟨[(0, L xs), (1, I v), (7, I xs.length), (8, I k)], []⟩ = match (xs.drop k).findIdx? fun x => decide (v = x) with
    | some i => some (.ret, ⟨[(4, I ((k + i : Nat) : Int))], []⟩)
    | none => some (.exit 0, ⟨[(0, L xs), (1, I v), (7, I xs.length), (8, I xs.length)], []⟩)
  | 0, k, h => by
    have : k = xs.length := by omega
    subst this
    rw [List.drop_of_length_le (Nat.le_refl _), loop_eq pr 124 0 _ Tryz.f124 fn_124 _ rfl _ ann_124 _ rfl]
    simp -implicitDefEqProofs only [Int.lt_irrefl, List.findIdx?_nil, go_sem, Nat.reduceAdd, Nat.reduceSub, Nat.reduceMul, Nat.reduceMod, Nat.reduceLT, Nat.reduceLeDiff, Nat.reduceEqDiff, Nat.reduceBEq, Nat.reduceDiv, Int.reduceLT, Int.reduceLE, Int.reduceToNat, Int.reduceNeg, Int.reduceEq, ↓reduceIte, reduceCtorEq, ↓reduceDIte]
  | n + 1, k, h => by
    have hlt : k < xs.length := by omega
    have ih := loop_124 v xs hb n (k + 1) (by omega)
    rw [List.drop_eq_getElem_cons hlt, List.findIdx?_cons, loop_eq pr 124 0 _ Tryz.f124 fn_124 _ rfl _ ann_124 _ rfl]
    rw [← getD_of_lt hlt 0]
    by_cases hq : v = xs.getD k 0
    · simp -implicitDefEqProofs only [lt_cast hlt, zero_le_cast, Int.toNat_natCast, wrap_succ hlt hb, tr hq, go_sem, Nat.reduceAdd, Nat.reduceSub, Nat.reduceMul, Nat.reduceMod, Nat.reduceLT, Nat.reduceLeDiff, Nat.reduceEqDiff, Nat.reduceBEq, Nat.reduceDiv, Int.reduceLT, Int.reduceLE, Int.reduceToNat, Int.reduceNeg, Int.reduceEq, ↓reduceIte, reduceCtorEq, ↓reduceDIte]
      rfl
    · simp -implicitDefEqProofs only [lt_cast hlt, zero_le_cast, Int.toNat_natCast, wrap_succ hlt hb, fa hq, go_sem, Nat.reduceAdd, Nat.reduceSub, Nat.reduceMul, Nat.reduceMod, Nat.reduceLT, Nat.reduceLeDiff, Nat.reduceEqDiff, Nat.reduceBEq, Nat.reduceDiv, Int.reduceLT, Int.reduceLE, Int.reduceToNat, Int.reduceNeg, Int.reduceEq, ↓reduceIte, reduceCtorEq, ↓reduceDIte]
      rw [ih]
      cases List.findIdx? (fun x => decide (v = x)) (List.drop (k + 1) xs) with
      | none => rfl
      | some i => simp only [Option.map_some]; rw [show k + 1 + i = k + (i + 1) from by omega]
theorem call_124 (v : Int) (xs : List Int) (hb : xs.length < 1000000000000000000) :
    callOf pr 124 [L xs, I v] [] = some (I (match xs.findIdx? fun x => decide (v = x) with | some i => (i : Int) | none => -1), []) := by
  have h : loopOf pr 124 0 ⟨[(0, L xs), (1, I v), (7, I xs.length), (8, I 0)], []⟩ = _ := loop_124 v xs hb xs.length 0 (by omega)
  rw [call_eq pr 124 _ _ Tryz.f124 fn_124 _ rfl _ ann_124 rfl]
  rw [List.drop_zero] at h
  cases hf : xs.findIdx? fun x => decide (v = x) with
  | none =>
    rw [hf] at h
    simp -implicitDefEqProofs only [h, go_sem, Nat.reduceAdd, Nat.reduceSub, Nat.reduceMul, Nat.reduceMod, Nat.reduceLT, Nat.reduceLeDiff, Nat.reduceEqDiff, Nat.reduceBEq, Nat.reduceDiv, Int.reduceLT, Int.reduceLE, Int.reduceToNat, Int.reduceNeg, Int.reduceEq, ↓reduceIte, reduceCtorEq, ↓reduceDIte]
  | some i =>
    rw [hf] at h
    simp only [Nat.zero_add] at h
    simp -implicitDefEqProofs only [h, go_sem, Nat.reduceAdd, Nat.reduceSub, Nat.reduceMul, Nat.reduceMod, Nat.reduceLT, Nat.reduceLeDiff, Nat.reduceEqDiff, Nat.reduceBEq, Nat.reduceDiv, Int.reduceLT, Int.reduceLE, Int.reduceToNat, Int.reduceNeg, Int.reduceEq, ↓reduceIte, reduceCtorEq, ↓reduceDIte]
theorem any_of_find {α : Type} (p : α → Bool) (xs : List α) : decide (0 ≤ (match xs.findIdx? p with | some i => (i : Int) | none => -1)) = xs.any p := by
  cases hf : xs.findIdx? p with
  | none =>
    have hany : xs.any p = false := by
      rw [List.findIdx?_eq_none_iff] at hf
      simpa using hf
    rw [hany]; rfl
  | some i =>
    have hany : xs.any p = true := by
      rw [List.findIdx?_eq_some_iff_getElem] at hf
      obtain ⟨h1, h2, _⟩ := hf
      exact List.any_eq_true.2 ⟨_, List.getElem_mem h1, h2⟩
    rw [hany]; simp
theorem call_72 (v : Int) (xs : List Int) (hb : xs.length < 1000000000000000000) : callOf pr 72 [L xs, I v] [] = some (B (xs.any fun x => decide (v = x)), []) := by
  have h := call_124 v xs hb
  rw [call_eq pr 72 _ _ Tryz.f72 fn_72 _ rfl _ ann_72 rfl]
  rw [← any_of_find]
  simp -implicitDefEqProofs only [h, go_sem, Nat.reduceAdd, Nat.reduceSub, Nat.reduceMul, Nat.reduceMod, Nat.reduceLT, Nat.reduceLeDiff, Nat.reduceEqDiff, Nat.reduceBEq, Nat.reduceDiv, Int.reduceLT, Int.reduceLE, Int.reduceToNat, Int.reduceNeg, Int.reduceEq, ↓reduceIte, reduceCtorEq, ↓reduceDIte]
theorem loop_has (x : Int) : ∀ (suf pre : List Int), pre.length + suf.length < 1000000000000000000 →
    loopOf pr 63 0 ⟨[(0, L (pre ++ suf)), (1, I x), (5, I pre.length)], []⟩ = if (suf.any fun y => decide (x = y)) = true then some (.ret, ⟨[(4, B true)], []⟩) else some (.exit 0, ⟨[(0, L (pre ++ suf)), (1, I x), (5, I ((pre.length + suf.length : Nat) : Int))], []⟩)
  | [], pre, hb => by
    rw [loop_eq pr 63 0 _ Tryz.f63 fn_63 _ rfl _ ann_63 _ rfl]
    simp -implicitDefEqProofs only [Int.lt_irrefl, List.append_nil, Nat.add_zero, List.any_nil, List.length_nil, go_sem, Nat.reduceAdd, Nat.reduceSub, Nat.reduceMul, Nat.reduceMod, Nat.reduceLT, Nat.reduceLeDiff, Nat.reduceEqDiff, Nat.reduceBEq, Nat.reduceDiv, Int.reduceLT, Int.reduceLE, Int.reduceToNat, Int.reduceNeg, Int.reduceEq, ↓reduceIte, reduceCtorEq, ↓reduceDIte]
  | y :: suf, pre, hb => by
    simp only [List.length_cons] at hb
    have hw : IntKind.i64.wrap ((pre.length : Int) + 1) = ((pre.length + 1 : Nat) : Int) := by rw [wrap_i] <;> omega
    have e1 : (pre ++ [y]).length = pre.length + 1 := by simp
    have e2 : pre.length + 1 + suf.length = pre.length + (suf.length + 1) := by omega
    have ih := loop_has x suf (pre ++ [y]) (by simp; omega)
    rw [e1, e2, app_one] at ih
    rw [loop_eq pr 63 0 _ Tryz.f63 fn_63 _ rfl _ ann_63 _ rfl]
    by_cases hy : x = y
    · have hq : (y = x) = True := tr hy.symm
      rw [if_pos (by simp [hy])]
      simp -implicitDefEqProofs only [getD_app, lt_app, ltn_app, zero_le_cast, Int.toNat_natCast, hw, hq, go_sem, Nat.reduceAdd, Nat.reduceSub, Nat.reduceMul, Nat.reduceMod, Nat.reduceLT, Nat.reduceLeDiff, Nat.reduceEqDiff, Nat.reduceBEq, Nat.reduceDiv, Int.reduceLT, Int.reduceLE, Int.reduceToNat, Int.reduceNeg, Int.reduceEq, ↓reduceIte, reduceCtorEq, ↓reduceDIte]
    · have hq : (y = x) = False := fa (fun e => hy e.symm)
      have ha : ((y :: suf).any fun z => decide (x = z)) = suf.any fun z => decide (x = z) := by simp [hy]
      rw [ha]
      simp -implicitDefEqProofs only [getD_app, lt_app, ltn_app, zero_le_cast, Int.toNat_natCast, hw, hq, List.length_cons, go_sem, Nat.reduceAdd, Nat.reduceSub, Nat.reduceMul, Nat.reduceMod, Nat.reduceLT, Nat.reduceLeDiff, Nat.reduceEqDiff, Nat.reduceBEq, Nat.reduceDiv, Int.reduceLT, Int.reduceLE, Int.reduceToNat, Int.reduceNeg, Int.reduceEq, ↓reduceIte, reduceCtorEq, ↓reduceDIte]
      exact ih
theorem call_has (x : Int) (xs : List Int) (hb : xs.length < 1000000000000000000) : callOf pr 63 [L xs, I x] [] = some (B (xs.any fun y => decide (x = y)), []) := by
  have h := loop_has x xs [] (by simpa using hb)
  simp only [List.nil_append, List.length_nil, Nat.zero_add] at h
  have h : loopOf pr 63 0 ⟨[(0, L xs), (1, I x), (5, I 0)], []⟩ = _ := h
  rw [call_eq pr 63 _ _ Tryz.f63 fn_63 _ rfl _ ann_63 rfl]
  cases ha : (xs.any fun y => decide (x = y)) with
  | true =>
    rw [ha, if_pos rfl] at h
    simp -implicitDefEqProofs only [h, go_sem, Nat.reduceAdd, Nat.reduceSub, Nat.reduceMul, Nat.reduceMod, Nat.reduceLT, Nat.reduceLeDiff, Nat.reduceEqDiff, Nat.reduceBEq, Nat.reduceDiv, Int.reduceLT, Int.reduceLE, Int.reduceToNat, Int.reduceNeg, Int.reduceEq, ↓reduceIte, reduceCtorEq, ↓reduceDIte]
  | false =>
    rw [ha, if_neg (by simp)] at h
    simp -implicitDefEqProofs only [h, go_sem, Nat.reduceAdd, Nat.reduceSub, Nat.reduceMul, Nat.reduceMod, Nat.reduceLT, Nat.reduceLeDiff, Nat.reduceEqDiff, Nat.reduceBEq, Nat.reduceDiv, Int.reduceLT, Int.reduceLE, Int.reduceToNat, Int.reduceNeg, Int.reduceEq, ↓reduceIte, reduceCtorEq, ↓reduceDIte]
/-- The pages with an entry. -/
def mapsB (r : List Int) (t : List (List En)) (k : Nat) : Bool := decide (0 ≤ (walkS r t k).1)
theorem addr_nat {k : Nat} (h : k < 64) : addrB (k : Int) = true := by simp only [addrB, decide_eq_true_eq]; omega
theorem loop_mpd (r : List Int) (t : List (List En)) (b : List Ca) (h8 : r.length = 8) (hr : ∀ x ∈ r, -1 ≤ x ∧ x ≤ (t.length : Int) - 1) (hx : ∀ x ∈ t, x.length = 8) : ∀ (n k : Nat), k + n = 64 →
    loopOf pr 43 0 ⟨[(0, .rp [L r, LLE t, LC b]), (3, .os (.t 320)), (4, I k)], [(320, .arr true false (.int .i64) (those (mapsB r t) k))]⟩ = some (.exit 0, ⟨[(0, .rp [L r, LLE t, LC b]), (3, .os (.t 320)), (4, I 64)], [(320, .arr true false (.int .i64) (those (mapsB r t) 64))]⟩)
  | 0, k, h => by
    have hk : k = 64 := by omega
    subst hk
    rw [loop_eq pr 43 0 _ Tryz.f43 fn_43 _ rfl _ ann_43 _ rfl]
    simp -implicitDefEqProofs only [Int.cast_ofNat_Int, go_sem, Nat.reduceAdd, Nat.reduceSub, Nat.reduceMul, Nat.reduceMod, Nat.reduceLT, Nat.reduceLeDiff, Nat.reduceEqDiff, Nat.reduceBEq, Nat.reduceDiv, Int.reduceLT, Int.reduceLE, Int.reduceToNat, Int.reduceNeg, Int.reduceEq, ↓reduceIte, reduceCtorEq, ↓reduceDIte]
  | n + 1, k, h => by
    have ih := loop_mpd r t b h8 hr hx n (k + 1) (by omega)
    have hk : ((k : Int) < 64) = True := tr (by omega)
    have hw : IntKind.i64.wrap ((k : Int) + 1) = ((k + 1 : Nat) : Int) := by rw [wrap_i] <;> omega
    have hl := those_length (mapsB r t) k
    have hroom : (((those (mapsB r t) k).length + 1) * 8 ≤ 140737488355328 ∧ (those (mapsB r t) k).length ≤ 9223372036854775806) = True := tr (by omega)
    have h1 := call_wk r t b k (addr_nat (by omega)) h8 hr hx
    rw [those_succ] at ih
    rw [loop_eq pr 43 0 _ Tryz.f43 fn_43 _ rfl _ ann_43 _ rfl]
    by_cases hm : 0 ≤ (walkS r t k).1
    · rw [if_pos (by simp only [mapsB, decide_eq_true_eq]; exact hm)] at ih
      simp -implicitDefEqProofs only [hk, h1, tr hm, ge_iff_le, hroom, hw, go_sem, Nat.reduceAdd, Nat.reduceSub, Nat.reduceMul, Nat.reduceMod, Nat.reduceLT, Nat.reduceLeDiff, Nat.reduceEqDiff, Nat.reduceBEq, Nat.reduceDiv, Int.reduceLT, Int.reduceLE, Int.reduceToNat, Int.reduceNeg, Int.reduceEq, ↓reduceIte, reduceCtorEq, ↓reduceDIte]
      exact ih
    · rw [if_neg (by simp only [mapsB, decide_eq_true_eq]; exact hm)] at ih
      simp -implicitDefEqProofs only [hk, h1, fa hm, ge_iff_le, hw, go_sem, Nat.reduceAdd, Nat.reduceSub, Nat.reduceMul, Nat.reduceMod, Nat.reduceLT, Nat.reduceLeDiff, Nat.reduceEqDiff, Nat.reduceBEq, Nat.reduceDiv, Int.reduceLT, Int.reduceLE, Int.reduceToNat, Int.reduceNeg, Int.reduceEq, ↓reduceIte, reduceCtorEq, ↓reduceDIte]
      exact ih
theorem call_mpd (r : List Int) (t : List (List En)) (b : List Ca) (h8 : r.length = 8) (hr : ∀ x ∈ r, -1 ≤ x ∧ x ≤ (t.length : Int) - 1) (hx : ∀ x ∈ t, x.length = 8) : callOf pr 43 [.rp [L r, LLE t, LC b]] [] = some (.os (.t 320), [(320, .arr true false (.int .i64) (those (mapsB r t) 64))]) := by
  have h := loop_mpd r t b h8 hr hx 64 0 rfl
  have h : loopOf pr 43 0 ⟨[(0, .rp [L r, LLE t, LC b]), (3, .os (.t 320)), (4, I 0)], [(320, .arr true false (.int .i64) [])]⟩ = _ := h
  rw [call_eq pr 43 _ _ Tryz.f43 fn_43 _ rfl _ ann_43 rfl]
  simp -implicitDefEqProofs only [h, go_sem, Nat.reduceAdd, Nat.reduceSub, Nat.reduceMul, Nat.reduceMod, Nat.reduceLT, Nat.reduceLeDiff, Nat.reduceEqDiff, Nat.reduceBEq, Nat.reduceDiv, Int.reduceLT, Int.reduceLE, Int.reduceToNat, Int.reduceNeg, Int.reduceEq, ↓reduceIte, reduceCtorEq, ↓reduceDIte]
theorem those_in {f : Nat → Bool} {n : Nat} {x : Int} (h : x ∈ those f n) : ∃ k : Nat, x = k ∧ k < n ∧ f k = true := by
  simp only [those, List.mem_map, List.mem_filter, List.mem_range] at h
  obtain ⟨k, ⟨h1, h2⟩, rfl⟩ := h
  exact ⟨k, rfl, h1, h2⟩
theorem mem_those {f : Nat → Bool} {n k : Nat} (h1 : k < n) (h2 : f k = true) : ((k : Nat) : Int) ∈ those f n := by
  simp only [those, List.mem_map, List.mem_filter, List.mem_range]
  exact ⟨k, ⟨h1, h2⟩, rfl⟩
/-- The frames of these pages. -/
def frameOf (r : List Int) (t : List (List En)) (p : Int) : Int := (walkS r t p).1
theorem loop_fr0 (r : List Int) (t : List (List En)) (b : List Ca) (h8 : r.length = 8) (hr : ∀ x ∈ r, -1 ≤ x ∧ x ≤ (t.length : Int) - 1) (hx : ∀ x ∈ t, x.length = 8) : ∀ (suf pre : List Int), pre.length + suf.length ≤ 64 → (∀ x ∈ suf, addrB x = true) →
    loopOf pr 64 0 ⟨[(0, .rp [L r, LLE t, LC b]), (3, .os (.t 512)), (4, .os (.t 640)), (5, I pre.length)], [(512, .arr true false (.int .i64) (pre.map (frameOf r t))), (640, .arr true false (.int .i64) (pre ++ suf))]⟩ = some (.exit 0, ⟨[(0, .rp [L r, LLE t, LC b]), (3, .os (.t 512)), (4, .os (.t 640)), (5, I ((pre.length + suf.length : Nat) : Int))], [(512, .arr true false (.int .i64) ((pre ++ suf).map (frameOf r t))), (640, .arr true false (.int .i64) (pre ++ suf))]⟩)
  | [], pre, hl, ha => by
    rw [loop_eq pr 64 0 _ Tryz.f64 fn_64 _ rfl _ ann_64 _ rfl]
    simp -implicitDefEqProofs only [Int.lt_irrefl, List.append_nil, Nat.add_zero, List.length_nil, go_sem, Nat.reduceAdd, Nat.reduceSub, Nat.reduceMul, Nat.reduceMod, Nat.reduceLT, Nat.reduceLeDiff, Nat.reduceEqDiff, Nat.reduceBEq, Nat.reduceDiv, Int.reduceLT, Int.reduceLE, Int.reduceToNat, Int.reduceNeg, Int.reduceEq, ↓reduceIte, reduceCtorEq, ↓reduceDIte]
  | x :: suf, pre, hl, ha => by
    simp only [List.length_cons] at hl
    have hw : IntKind.i64.wrap ((pre.length : Int) + 1) = ((pre.length + 1 : Nat) : Int) := by rw [wrap_i] <;> omega
    have e1 : (pre ++ [x]).length = pre.length + 1 := by simp
    have e2 : pre.length + 1 + suf.length = pre.length + (suf.length + 1) := by omega
    have ih := loop_fr0 r t b h8 hr hx suf (pre ++ [x]) (by simp; omega) (fun y hy => ha y (by simp [hy]))
    rw [e1, e2, app_one] at ih
    have h1 := call_wk r t b x (ha x (by simp)) h8 hr hx
    have hroom : ((pre.length + 1) * 8 ≤ 140737488355328 ∧ pre.length ≤ 9223372036854775806) = True := tr (by omega)
    have hml : (pre.map (frameOf r t)).length = pre.length := by simp
    rw [loop_eq pr 64 0 _ Tryz.f64 fn_64 _ rfl _ ann_64 _ rfl]
    simp -implicitDefEqProofs only [getD_app, lt_app, ltn_app, zero_le_cast, Int.toNat_natCast, hw, h1, hml, hroom, List.length_cons, go_sem, Nat.reduceAdd, Nat.reduceSub, Nat.reduceMul, Nat.reduceMod, Nat.reduceLT, Nat.reduceLeDiff, Nat.reduceEqDiff, Nat.reduceBEq, Nat.reduceDiv, Int.reduceLT, Int.reduceLE, Int.reduceToNat, Int.reduceNeg, Int.reduceEq, ↓reduceIte, reduceCtorEq, ↓reduceDIte]
    rw [List.map_append] at ih
    exact ih
theorem loop_fr1 (tk : List Int) (htk : tk.length < 100) : ∀ (n k : Nat), k + n = 16 →
    loopOf pr 64 1 ⟨[(3, .os (.t 512)), (6, .os (.t 1728)), (7, I k)], [(512, .arr true false (.int .i64) tk), (1728, .arr true false (.int .i64) (those (fun i => !tk.any fun y => decide ((i : Int) = y)) k))]⟩ = some (.exit 2, ⟨[(3, .os (.t 512)), (6, .os (.t 1728)), (7, I 16)], [(512, .arr true false (.int .i64) tk), (1728, .arr true false (.int .i64) (those (fun i => !tk.any fun y => decide ((i : Int) = y)) 16))]⟩)
  | 0, k, h => by
    have hk : k = 16 := by omega
    subst hk
    rw [loop_eq pr 64 1 _ Tryz.f64 fn_64 _ rfl _ ann_64 _ rfl]
    simp -implicitDefEqProofs only [Int.cast_ofNat_Int, go_sem, Nat.reduceAdd, Nat.reduceSub, Nat.reduceMul, Nat.reduceMod, Nat.reduceLT, Nat.reduceLeDiff, Nat.reduceEqDiff, Nat.reduceBEq, Nat.reduceDiv, Int.reduceLT, Int.reduceLE, Int.reduceToNat, Int.reduceNeg, Int.reduceEq, ↓reduceIte, reduceCtorEq, ↓reduceDIte]
  | n + 1, k, h => by
    have ih := loop_fr1 tk htk n (k + 1) (by omega)
    have hk : ((k : Int) < 16) = True := tr (by omega)
    have hw : IntKind.i64.wrap ((k : Int) + 1) = ((k + 1 : Nat) : Int) := by rw [wrap_i] <;> omega
    have hl := those_length (fun i => !tk.any fun y => decide ((i : Int) = y)) k
    have h1 := call_has k tk (by omega)
    rw [those_succ] at ih
    generalize hth : those (fun i => !tk.any fun y => decide ((i : Int) = y)) k = T at hl ih ⊢
    have hroom : ((T.length + 1) * 8 ≤ 140737488355328 ∧ T.length ≤ 9223372036854775806) = True := tr (by omega)
    rw [loop_eq pr 64 1 _ Tryz.f64 fn_64 _ rfl _ ann_64 _ rfl]
    cases hm : (tk.any fun y => decide ((k : Int) = y)) with
    | false =>
      rw [hm] at h1
      rw [hm, show (!false) = true from rfl, if_pos rfl] at ih
      simp -implicitDefEqProofs only [hk, h1, hroom, hw, go_sem, Nat.reduceAdd, Nat.reduceSub, Nat.reduceMul, Nat.reduceMod, Nat.reduceLT, Nat.reduceLeDiff, Nat.reduceEqDiff, Nat.reduceBEq, Nat.reduceDiv, Int.reduceLT, Int.reduceLE, Int.reduceToNat, Int.reduceNeg, Int.reduceEq, ↓reduceIte, reduceCtorEq, ↓reduceDIte]
      exact ih
    | true =>
      rw [hm] at h1
      rw [hm, show (!true) = false from rfl, if_neg (by simp)] at ih
      simp -implicitDefEqProofs only [hk, h1, hw, go_sem, Nat.reduceAdd, Nat.reduceSub, Nat.reduceMul, Nat.reduceMod, Nat.reduceLT, Nat.reduceLeDiff, Nat.reduceEqDiff, Nat.reduceBEq, Nat.reduceDiv, Int.reduceLT, Int.reduceLE, Int.reduceToNat, Int.reduceNeg, Int.reduceEq, ↓reduceIte, reduceCtorEq, ↓reduceDIte]
      exact ih
/-- The frames that are taken, and those that are free. -/
def takenS (r : List Int) (t : List (List En)) : List Int := (those (mapsB r t) 64).map (frameOf r t)
def freeS (r : List Int) (t : List (List En)) : List Int := those (fun i => !(takenS r t).any fun y => decide ((i : Int) = y)) 16
theorem call_fre (r : List Int) (t : List (List En)) (b : List Ca) (h8 : r.length = 8) (hr : ∀ x ∈ r, -1 ≤ x ∧ x ≤ (t.length : Int) - 1) (hx : ∀ x ∈ t, x.length = 8) : callOf pr 64 [.rp [L r, LLE t, LC b]] [] = some (.os (.t 1728), [(1728, .arr true false (.int .i64) (freeS r t))]) := by
  have h1 := call_mpd r t b h8 hr hx
  have hl := those_length (mapsB r t) 64
  have h2 := loop_fr0 r t b h8 hr hx (those (mapsB r t) 64) [] (by simpa using hl) (fun x hx' => by obtain ⟨k, rfl, hk, _⟩ := those_in hx'; exact addr_nat hk)
  simp only [List.map_nil, List.nil_append, List.length_nil, Nat.zero_add] at h2
  have h2 : loopOf pr 64 0 ⟨[(0, .rp [L r, LLE t, LC b]), (3, .os (.t 512)), (4, .os (.t 640)), (5, I 0)], [(512, .arr true false (.int .i64) []), (640, .arr true false (.int .i64) (those (mapsB r t) 64))]⟩ = some (.exit 0, ⟨[(0, .rp [L r, LLE t, LC b]), (3, .os (.t 512)), (4, .os (.t 640)), (5, I ((those (mapsB r t) 64).length))], [(512, .arr true false (.int .i64) (takenS r t)), (640, .arr true false (.int .i64) (those (mapsB r t) 64))]⟩) := h2
  have h3 := loop_fr1 (takenS r t) (by simp only [takenS, List.length_map]; omega) 16 0 rfl
  have h3 : loopOf pr 64 1 ⟨[(3, .os (.t 512)), (6, .os (.t 1728)), (7, I 0)], [(512, .arr true false (.int .i64) (takenS r t)), (1728, .arr true false (.int .i64) [])]⟩ = some (.exit 2, ⟨[(3, .os (.t 512)), (6, .os (.t 1728)), (7, I 16)], [(512, .arr true false (.int .i64) (takenS r t)), (1728, .arr true false (.int .i64) (freeS r t))]⟩) := h3
  rw [call_eq pr 64 _ _ Tryz.f64 fn_64 _ rfl _ ann_64 rfl]
  simp -implicitDefEqProofs only [h1, h2, h3, go_sem, Nat.reduceAdd, Nat.reduceSub, Nat.reduceMul, Nat.reduceMod, Nat.reduceLT, Nat.reduceLeDiff, Nat.reduceEqDiff, Nat.reduceBEq, Nat.reduceDiv, Int.reduceLT, Int.reduceLE, Int.reduceToNat, Int.reduceNeg, Int.reduceEq, ↓reduceIte, reduceCtorEq, ↓reduceDIte]
theorem mem_taken {r : List Int} {t : List (List En)} {f : Int} : f ∈ takenS r t ↔ ∃ k : Nat, k < 64 ∧ 0 ≤ (walkS r t k).1 ∧ (walkS r t k).1 = f := by
  simp only [takenS, List.mem_map]
  constructor
  · rintro ⟨x, hx, rfl⟩
    obtain ⟨k, rfl, h1, h2⟩ := those_in hx
    exact ⟨k, h1, by simpa [mapsB] using h2, rfl⟩
  · rintro ⟨k, h1, h2, rfl⟩
    exact ⟨k, mem_those h1 (by simpa [mapsB] using h2), rfl⟩
theorem mem_frT {t : List (List En)} {f : Int} : f ∈ frT t ↔ ∃ row ∈ t, ∃ e ∈ row, e.1 = f ∧ 0 ≤ f := by
  simp only [frT, List.mem_flatMap, frE, List.mem_filter, List.mem_map, decide_eq_true_eq]
  constructor
  · rintro ⟨row, h1, ⟨e, h2, h3⟩, h4⟩; exact ⟨row, h1, e, h2, h3, h4⟩
  · rintro ⟨row, h1, e, h2, h3, h4⟩; exact ⟨row, h1, ⟨e, h2, h3⟩, h4⟩
theorem taken_iff {r : List Int} {t : List (List En)} {b : List Ca} (hs : specS r t b = true) (f : Int) : f ∈ takenS r t ↔ f ∈ frT t := by
  obtain ⟨s1, s2, s3, s4, s5⟩ := spec_tab hs
  rw [mem_taken, mem_frT]
  constructor
  · rintro ⟨k, h1, h2, rfl⟩
    obtain ⟨_, _, hi, hj⟩ := page_facts (addr_nat h1)
    have h0 : ¬ rootAt r k < 0 := by
      intro hc
      have e : walkS r t k = emptyEn := if_pos hc
      rw [e] at h2
      simp [emptyEn] at h2
    obtain ⟨g1, g2, g3⟩ := root_facts s1 hi s4 s3 h0
    have hw : walkS r t k = (rowAt r t k)[pgJ k]'(by omega) := by
      rw [← walk_row h0, getD_of_lt (by omega)]
    have hrow : rowAt r t k ∈ t := by
      have : rowAt r t k = t[(rootAt r k).toNat] := by simp [rowAt, List.getD, List.getElem?_eq_getElem g1]
      rw [this]; exact List.getElem_mem _
    exact ⟨_, hrow, walkS r t k, by rw [hw]; exact List.getElem_mem _, rfl, h2⟩
  · rintro ⟨row, h1, e, h2, rfl, h3⟩
    obtain ⟨i, hi, rfl⟩ := List.getElem_of_mem h1
    obtain ⟨j, hj, rfl⟩ := List.getElem_of_mem h2
    have h8 := s3 _ h1
    have htab : tabC r 0 t = true := by
      simp only [specS, tabB, Bool.and_eq_true] at hs
      exact hs.1.1.1.1.2
    have hc := ((tabC_iff r t 0).1 htab).1 i (by omega) (by omega)
    have hm : (i : Int) ∈ r := List.count_pos_iff.1 (by omega)
    obtain ⟨m, hm1, hm2⟩ := List.getElem_of_mem hm
    have e1 : pgI ((8 * m + j : Nat) : Int) = m := by simp only [pgI]; omega
    have e2 : pgJ ((8 * m + j : Nat) : Int) = j := by simp only [pgJ]; omega
    have hroot : rootAt r ((8 * m + j : Nat) : Int) = i := by
      simp only [rootAt, e1]
      rw [getD_of_lt hm1, hm2]
    have hrow : rowAt r t ((8 * m + j : Nat) : Int) = t[i] := by
      simp only [rowAt, hroot, Int.toNat_natCast]
      rw [getD_of_lt hi]
    have hw : walkS r t ((8 * m + j : Nat) : Int) = t[i][j] := by
      rw [← walk_row (by rw [hroot]; omega), hrow, e2, getD_of_lt hj]
    exact ⟨8 * m + j, by omega, by rw [hw]; exact h3, by rw [hw]⟩
theorem free_eq {r : List Int} {t : List (List En)} {b : List Ca} (hs : specS r t b = true) {f : Int} (hf : frameB f = true) : (freeS r t).any (fun y => decide (f = y)) = !((frT t).any fun y => decide (f = y)) := by
  obtain ⟨f1, f2⟩ := frame_bound hf
  have ha : ∀ (xs : List Int), (xs.any fun y => decide (f = y)) = decide (f ∈ xs) := by
    intro xs
    rw [Bool.eq_iff_iff]
    simp only [List.any_eq_true, decide_eq_true_eq]
    constructor
    · rintro ⟨y, hy, rfl⟩; exact hy
    · intro h; exact ⟨f, h, rfl⟩
  rw [ha, ha, ← decide_not]
  congr 1
  rw [← taken_iff hs, eq_iff_iff]
  constructor
  · intro h hc
    obtain ⟨k, rfl, h1, h2⟩ := those_in h
    simp only [Bool.not_eq_true', List.any_eq_false, decide_eq_true_eq] at h2
    exact h2 _ hc rfl
  · intro h
    have e : f = ((f.toNat : Nat) : Int) := by omega
    rw [e]
    refine mem_those (by omega) ?_
    simp only [Bool.not_eq_true', List.any_eq_false, decide_eq_true_eq]
    intro y hy he
    rw [← e] at he
    exact h (he ▸ hy)
/-! where the new entry lies -/
def root2 (r : List Int) (t : List (List En)) (p : Int) : List Int := if rootAt r p < 0 then r.set (pgI p) t.length else r
def tabs2 (r : List Int) (t : List (List En)) (p : Int) : List (List En) := if rootAt r p < 0 then t ++ [tab8] else t
theorem map_facts {r : List Int} {t : List (List En)} {b : List Ca} {p : Int} (hs : specS r t b = true) (ha : addrB p = true) : (root2 r t p).length = 8 ∧ (∀ x ∈ root2 r t p, -1 ≤ x ∧ x ≤ ((tabs2 r t p).length : Int) - 1) ∧ (∀ x ∈ tabs2 r t p, x.length = 8) ∧ ¬ rootAt (root2 r t p) p < 0 ∧ (tabs2 r t p).length ≤ 9 := by
  obtain ⟨s1, s2, s3, s4, s5⟩ := spec_tab hs
  obtain ⟨_, _, hi, hj⟩ := page_facts ha
  by_cases h0 : rootAt r p < 0
  · simp only [root2, tabs2, if_pos h0]
    refine ⟨by simp [s1], fun x hx => ?_, fun x hx => ?_, ?_, by simp; omega⟩
    · rcases List.mem_or_eq_of_mem_set hx with h | h
      · have := s4 x h; simp only [List.length_append, List.length_cons, List.length_nil]; omega
      · subst h; simp only [List.length_append, List.length_cons, List.length_nil]; omega
    · rcases List.mem_append.1 hx with h | h
      · exact s3 x h
      · simp only [List.mem_singleton] at h; subst h; rfl
    · simp only [rootAt]
      rw [getD_of_lt (by simp; omega)]
      simp
  · simp only [root2, tabs2, if_neg h0]
    exact ⟨s1, s4, s3, h0, by omega⟩
def mapC (r : List Int) (t : List (List En)) (b : List Ca) (p f : Int) : Bool := specS r t b && addrB p && frameB f && decide ((walkS r t p).1 < 0) && !((frT t).any fun y => decide (f = y))
def mapT (r : List Int) (t : List (List En)) (p f : Int) (w : Bool) : List (List En) := putT (root2 r t p) (tabs2 r t p) p (f, w, false, false, ())
theorem map_sizes {r : List Int} {t : List (List En)} {b : List Ca} {p f : Int} {w : Bool} (h : mapC r t b p f = true) : (root2 r t p).length ≤ 100 ∧ (mapT r t p f w).length ≤ 100 ∧ (∀ x ∈ mapT r t p f w, x.length ≤ 100) ∧ b.length ≤ 100 := by
  simp only [mapC, Bool.and_eq_true] at h
  obtain ⟨m1, m2, m3, m4, m5⟩ := map_facts h.1.1.1.1 h.1.1.1.2
  obtain ⟨_, _, hi, _⟩ := page_facts h.1.1.1.2
  obtain ⟨g1, g2, g3⟩ := root_facts m1 hi m2 m3 m4
  obtain ⟨s1, s2, s3, s4, s5⟩ := spec_tab h.1.1.1.1
  exact ⟨by omega, by simp only [mapT, putT_length]; omega, fun x hx => by rw [putT_rows m3 g3 x hx]; omega, by omega⟩
end Go.Proofs.YticpldfkjldepaaGreat.PI
