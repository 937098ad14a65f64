/- A use: the reference's step and the program's. -/
import Derived.Test.YtfooniikopekoaaP3
namespace Go.Proofs.Ytfooniikopekoaa.PI
open Go Go.Q
set_option maxRecDepth 100000
set_option maxHeartbeats 4000000
set_option linter.unusedSimpArgs false
set_option linter.unusedVariables false
theorem call_own (xs : List Int) (hb : xs.length ≤ 1000000) : callOf pr 92 [L xs] [] = some (.os (.t 192), [(192, .arr true false (.int .i64) xs)]) := by
  have h : ((0 + xs.length) * 8 ≤ 140737488355328 ∧ 0 + xs.length ≤ 9223372036854775807) = True := tr (by omega)
  rw [call_eq pr 92 _ _ Try.f92 fn_92 _ rfl _ ann_92 rfl]
  simp -implicitDefEqProofs only [h, go_sem, Nat.reduceAdd, Nat.reduceSub, Nat.reduceMul, Nat.reduceMod, Nat.reduceLT, Nat.reduceLeDiff, Nat.reduceEqDiff, Nat.reduceBEq, Nat.reduceDiv, Int.reduceLT, Int.reduceLE, Int.reduceToNat, Int.reduceNeg, Int.reduceEq, ↓reduceIte, reduceCtorEq, ↓reduceDIte, Bool.false_eq_true, Bool.true_eq_false, ne_eq, not_true_eq_false, not_false_eq_true, Bool.true_or, Bool.false_or, Bool.or_true, Bool.or_false, Bool.true_and, Bool.false_and, Bool.and_true, Bool.and_false, Bool.not_true, Bool.not_false, Bool.not_eq_false', Bool.not_eq_true', and_true, true_and, and_false, false_and, or_true, true_or, or_false, false_or, and_self, or_self, decide_eq_true_eq, decide_true, decide_false, decide_eq_false_iff_not, ite_not, if_true, if_false, eq_self]
theorem call_clone (xs : List Int) (h0 : ¬ xs.length = 0) (hb : xs.length ≤ 1000000) : callOf pr 75 [L xs] [] = some (.os (.t 320), [(320, .arr true false (.int .i64) xs)]) := by
  have h : ((0 + xs.length) * 8 ≤ 140737488355328 ∧ 0 + xs.length ≤ 9223372036854775807) = True := tr (by omega)
  rw [call_eq pr 75 _ _ Try.f75 fn_75 _ rfl _ ann_75 rfl]
  simp -implicitDefEqProofs only [h, fa h0, go_sem, Nat.reduceAdd, Nat.reduceSub, Nat.reduceMul, Nat.reduceMod, Nat.reduceLT, Nat.reduceLeDiff, Nat.reduceEqDiff, Nat.reduceBEq, Nat.reduceDiv, Int.reduceLT, Int.reduceLE, Int.reduceToNat, Int.reduceNeg, Int.reduceEq, ↓reduceIte, reduceCtorEq, ↓reduceDIte, Bool.false_eq_true, Bool.true_eq_false, ne_eq, not_true_eq_false, not_false_eq_true, Bool.true_or, Bool.false_or, Bool.or_true, Bool.or_false, Bool.true_and, Bool.false_and, Bool.and_true, Bool.and_false, Bool.not_true, Bool.not_false, Bool.not_eq_false', Bool.not_eq_true', and_true, true_and, and_false, false_and, or_true, true_or, or_false, false_or, and_self, or_self, decide_eq_true_eq, decide_true, decide_false, decide_eq_false_iff_not, ite_not, if_true, if_false, eq_self]
/-- The age of an address. -/
def ageOf (a : Int) (now : List Int) : Option Nat := now.findIdx? fun y => decide (y = a)
theorem loop_age (a : Int) : ∀ (suf pre : List Int), pre.length + suf.length < 1000000000000000000 →
    loopOf pr 93 0 ⟨[(0, L (pre ++ suf)), (1, I a), (5, I pre.length)], []⟩ = match ageOf a suf with
      | some i => some (.ret, ⟨[(4, I ((pre.length + i : Nat) : Int))], []⟩)
      | none => some (.exit 0, ⟨[(0, L (pre ++ suf)), (1, I a), (5, I ((pre.length + suf.length : Nat) : Int))], []⟩)
  | [], pre, hb => by
    rw [loop_eq pr 93 0 _ Try.f93 fn_93 _ rfl _ ann_93 _ rfl]
    simp -implicitDefEqProofs only [Int.lt_irrefl, List.append_nil, Nat.add_zero, ageOf, List.findIdx?_nil, go_sem, Nat.reduceAdd, Nat.reduceSub, Nat.reduceMul, Nat.reduceMod, Nat.reduceLT, Nat.reduceLeDiff, Nat.reduceEqDiff, Nat.reduceBEq, Nat.reduceDiv, Int.reduceLT, Int.reduceLE, Int.reduceToNat, Int.reduceNeg, Int.reduceEq, ↓reduceIte, reduceCtorEq, ↓reduceDIte, Bool.false_eq_true, Bool.true_eq_false, ne_eq, not_true_eq_false, not_false_eq_true, Bool.true_or, Bool.false_or, Bool.or_true, Bool.or_false, Bool.true_and, Bool.false_and, Bool.and_true, Bool.and_false, Bool.not_true, Bool.not_false, Bool.not_eq_false', Bool.not_eq_true', and_true, true_and, and_false, false_and, or_true, true_or, or_false, false_or, and_self, or_self, decide_eq_true_eq, decide_true, decide_false, decide_eq_false_iff_not, ite_not, if_true, if_false, eq_self]
  | y :: suf, pre, hb => by
    simp only [List.length_cons] at hb
    have hw : IntKind.i64.wrap ((pre.length : Int) + 1) = ((pre.length + 1 : Nat) : Int) := by rw [wrap_i] <;> omega
    rw [loop_eq pr 93 0 _ Try.f93 fn_93 _ rfl _ ann_93 _ rfl]
    unfold ageOf
    rw [List.findIdx?_cons]
    by_cases hq : y = a
    · simp only [hq, decide_true, if_true, Nat.add_zero]
      have hw2 := wrap_nat (k := pre.length) (by omega)
      simp -implicitDefEqProofs only [getD_app, lt_app, ltn_app, zero_le_cast, Int.toNat_natCast, hw2, go_sem, Nat.reduceAdd, Nat.reduceSub, Nat.reduceMul, Nat.reduceMod, Nat.reduceLT, Nat.reduceLeDiff, Nat.reduceEqDiff, Nat.reduceBEq, Nat.reduceDiv, Int.reduceLT, Int.reduceLE, Int.reduceToNat, Int.reduceNeg, Int.reduceEq, ↓reduceIte, reduceCtorEq, ↓reduceDIte, Bool.false_eq_true, Bool.true_eq_false, ne_eq, not_true_eq_false, not_false_eq_true, Bool.true_or, Bool.false_or, Bool.or_true, Bool.or_false, Bool.true_and, Bool.false_and, Bool.and_true, Bool.and_false, Bool.not_true, Bool.not_false, Bool.not_eq_false', Bool.not_eq_true', and_true, true_and, and_false, false_and, or_true, true_or, or_false, false_or, and_self, or_self, decide_eq_true_eq, decide_true, decide_false, decide_eq_false_iff_not, ite_not, if_true, if_false, eq_self]
    · have ih := loop_age a suf (pre ++ [y]) (by simp; omega)
      have e1 : (pre ++ [y]).length = pre.length + 1 := by simp
      have e2 : pre.length + 1 + suf.length = pre.length + (suf.length + 1) := by omega
      rw [app_one, e1, e2] at ih
      unfold ageOf at ih
      simp -implicitDefEqProofs only [getD_app, lt_app, ltn_app, zero_le_cast, Int.toNat_natCast, fa hq, decide_false, hw, go_sem, Nat.reduceAdd, Nat.reduceSub, Nat.reduceMul, Nat.reduceMod, Nat.reduceLT, Nat.reduceLeDiff, Nat.reduceEqDiff, Nat.reduceBEq, Nat.reduceDiv, Int.reduceLT, Int.reduceLE, Int.reduceToNat, Int.reduceNeg, Int.reduceEq, ↓reduceIte, reduceCtorEq, ↓reduceDIte, Bool.false_eq_true, Bool.true_eq_false, ne_eq, not_true_eq_false, not_false_eq_true, Bool.true_or, Bool.false_or, Bool.or_true, Bool.or_false, Bool.true_and, Bool.false_and, Bool.and_true, Bool.and_false, Bool.not_true, Bool.not_false, Bool.not_eq_false', Bool.not_eq_true', and_true, true_and, and_false, false_and, or_true, true_or, or_false, false_or, and_self, or_self, decide_eq_true_eq, decide_true, decide_false, decide_eq_false_iff_not, ite_not, if_true, if_false, eq_self]
      rw [ih]
      cases List.findIdx? (fun y => decide (y = a)) suf with
      | none => rfl
      | some i => simp only [Option.map_some]; rw [show pre.length + 1 + i = pre.length + (i + 1) from by omega]
def ageI (a : Int) (now : List Int) : Int := match ageOf a now with
  | some i => (i : Int)
  | none => -1
theorem call_age (a : Int) (now : List Int) (hb : now.length < 1000000000000000000) : callOf pr 93 [L now, I a] [] = some (I (ageI a now), []) := by
  have h := loop_age a now [] (by simpa using hb)
  simp only [List.nil_append, List.length_nil, Nat.zero_add] at h
  have h : loopOf pr 93 0 ⟨[(0, L now), (1, I a), (5, I 0)], []⟩ = _ := h
  rw [call_eq pr 93 _ _ Try.f93 fn_93 _ rfl _ ann_93 rfl]
  unfold ageI
  cases hg : ageOf a now with
  | some i =>
    rw [hg] at h
    simp -implicitDefEqProofs only [h, go_sem, Nat.reduceAdd, Nat.reduceSub, Nat.reduceMul, Nat.reduceMod, Nat.reduceLT, Nat.reduceLeDiff, Nat.reduceEqDiff, Nat.reduceBEq, Nat.reduceDiv, Int.reduceLT, Int.reduceLE, Int.reduceToNat, Int.reduceNeg, Int.reduceEq, ↓reduceIte, reduceCtorEq, ↓reduceDIte, Bool.false_eq_true, Bool.true_eq_false, ne_eq, not_true_eq_false, not_false_eq_true, Bool.true_or, Bool.false_or, Bool.or_true, Bool.or_false, Bool.true_and, Bool.false_and, Bool.and_true, Bool.and_false, Bool.not_true, Bool.not_false, Bool.not_eq_false', Bool.not_eq_true', and_true, true_and, and_false, false_and, or_true, true_or, or_false, false_or, and_self, or_self, decide_eq_true_eq, decide_true, decide_false, decide_eq_false_iff_not, ite_not, if_true, if_false, eq_self]
  | none =>
    rw [hg] at h
    simp -implicitDefEqProofs only [h, go_sem, Nat.reduceAdd, Nat.reduceSub, Nat.reduceMul, Nat.reduceMod, Nat.reduceLT, Nat.reduceLeDiff, Nat.reduceEqDiff, Nat.reduceBEq, Nat.reduceDiv, Int.reduceLT, Int.reduceLE, Int.reduceToNat, Int.reduceNeg, Int.reduceEq, ↓reduceIte, reduceCtorEq, ↓reduceDIte, Bool.false_eq_true, Bool.true_eq_false, ne_eq, not_true_eq_false, not_false_eq_true, Bool.true_or, Bool.false_or, Bool.or_true, Bool.or_false, Bool.true_and, Bool.false_and, Bool.and_true, Bool.and_false, Bool.not_true, Bool.not_false, Bool.not_eq_false', Bool.not_eq_true', and_true, true_and, and_false, false_and, or_true, true_or, or_false, false_or, and_self, or_self, decide_eq_true_eq, decide_true, decide_false, decide_eq_false_iff_not, ite_not, if_true, if_false, eq_self]
theorem ageOf_lt {a : Int} {now : List Int} {i : Nat} (h : ageOf a now = some i) : i < now.length := by
  unfold ageOf at h
  rw [List.findIdx?_eq_some_iff_getElem] at h
  exact h.1
/-- What stands at the old ages of a list. -/
def perm (cs ages : List Int) : List Int := ages.map fun j => cs.getD j.toNat 0
theorem perm_length (cs ages : List Int) : (perm cs ages).length = ages.length := by simp [perm]
/-- A use: the contents after it, what has been replaced, whether it was a hit. -/
def stepC (hit : List (List Int)) (miss now : List Int) (a : Int) : List Int × Int × Bool := match ageOf a now with
  | some i => (perm now (hit.getD i []), -1, true)
  | none => (perm (now.set (now.length - 1) a) miss, now.getD (now.length - 1) 0, false)
theorem perm_snoc (cs done : List Int) (j : Int) : perm cs (done ++ [j]) = perm cs done ++ [cs.getD j.toNat 0] := by simp [perm]
theorem loop_sst (cs : List Int) (g : Int) (hc : cs.length < 1000000) : ∀ (ages done : List Int), (∀ j ∈ ages, 0 ≤ j ∧ j < (cs.length : Int)) → done.length + ages.length < 1000000 →
    loopOf pr 56 0 ⟨[(8, .os (.t 896)), (9, I g), (10, L (done ++ ages)), (11, .os (.t 2368)), (12, I done.length)], [(896, .arr true false (.int .i64) cs), (2368, .arr true false (.int .i64) (perm cs done))]⟩ =
      some (.exit 0, ⟨[(8, .os (.t 896)), (9, I g), (10, L (done ++ ages)), (11, .os (.t 2368)), (12, I ((done.length + ages.length : Nat) : Int))], [(896, .arr true false (.int .i64) cs), (2368, .arr true false (.int .i64) (perm cs (done ++ ages)))]⟩)
  | [], done, hj, hb => by
    rw [loop_eq pr 56 0 _ Try.f56 fn_56 _ rfl _ ann_56 _ rfl]
    simp -implicitDefEqProofs only [Int.lt_irrefl, List.append_nil, Nat.add_zero, go_sem, Nat.reduceAdd, Nat.reduceSub, Nat.reduceMul, Nat.reduceMod, Nat.reduceLT, Nat.reduceLeDiff, Nat.reduceEqDiff, Nat.reduceBEq, Nat.reduceDiv, Int.reduceLT, Int.reduceLE, Int.reduceToNat, Int.reduceNeg, Int.reduceEq, ↓reduceIte, reduceCtorEq, ↓reduceDIte, Bool.false_eq_true, Bool.true_eq_false, ne_eq, not_true_eq_false, not_false_eq_true, Bool.true_or, Bool.false_or, Bool.or_true, Bool.or_false, Bool.true_and, Bool.false_and, Bool.and_true, Bool.and_false, Bool.not_true, Bool.not_false, Bool.not_eq_false', Bool.not_eq_true', and_true, true_and, and_false, false_and, or_true, true_or, or_false, false_or, and_self, or_self, decide_eq_true_eq, decide_true, decide_false, decide_eq_false_iff_not, ite_not, if_true, if_false, eq_self]
  | j :: ages, done, hj, hb => by
    simp only [List.length_cons] at hb
    obtain ⟨k, rfl⟩ : ∃ k : Nat, j = (k : Int) := ⟨j.toNat, by have := hj j (by simp); omega⟩
    have hk : k < cs.length := by have := (hj k (by simp)).2; omega
    have hw : IntKind.i64.wrap ((done.length : Int) + 1) = ((done.length + 1 : Nat) : Int) := by rw [wrap_i] <;> omega
    have ih := loop_sst cs g hc ages (done ++ [(k : Int)]) (fun x hx => hj x (by simp [hx])) (by simp; omega)
    have e1 : (done ++ [(k : Int)]).length = done.length + 1 := by simp
    have e2 : done.length + 1 + ages.length = done.length + ((k : Int) :: ages).length := by simp; omega
    have e3 : perm cs (done ++ [(k : Int)]) = perm cs done ++ [cs.getD k 0] := by rw [perm_snoc]; rfl
    rw [e3, app_one, e1, e2] at ih
    rw [loop_eq pr 56 0 _ Try.f56 fn_56 _ rfl _ ann_56 _ rfl]
    simp -implicitDefEqProofs only [getD_app, lt_app, ltn_app, zero_le_cast, Int.toNat_natCast, lt_cast hk, hw, tr (show ((perm cs done).length + 1) * 8 ≤ 140737488355328 ∧ (perm cs done).length ≤ 9223372036854775806 by rw [perm_length]; omega), tr (show ((perm cs done).length + 1) * 8 ≤ 140737488355328 ∧ (perm cs done).length + 1 ≤ 9223372036854775807 by rw [perm_length]; omega), go_sem, Nat.reduceAdd, Nat.reduceSub, Nat.reduceMul, Nat.reduceMod, Nat.reduceLT, Nat.reduceLeDiff, Nat.reduceEqDiff, Nat.reduceBEq, Nat.reduceDiv, Int.reduceLT, Int.reduceLE, Int.reduceToNat, Int.reduceNeg, Int.reduceEq, ↓reduceIte, reduceCtorEq, ↓reduceDIte, Bool.false_eq_true, Bool.true_eq_false, ne_eq, not_true_eq_false, not_false_eq_true, Bool.true_or, Bool.false_or, Bool.or_true, Bool.or_false, Bool.true_and, Bool.false_and, Bool.and_true, Bool.and_false, Bool.not_true, Bool.not_false, Bool.not_eq_false', Bool.not_eq_true', and_true, true_and, and_false, false_and, or_true, true_or, or_false, false_or, and_self, or_self, decide_eq_true_eq, decide_true, decide_false, decide_eq_false_iff_not, ite_not, if_true, if_false, eq_self]
    exact ih
theorem call_sst (hit : List (List Int)) (miss now : List Int) (a : Int) (hv : validP hit miss = true) (hn : now.length = miss.length) :
    callOf pr 56 [.rp [LL hit, L miss], L now, I a] [] = some (.tuple [.os (.t 2368), B (stepC hit miss now a).2.2], [(2368, .arr true false (.int .i64) (stepC hit miss now a).1)]) := by
  obtain ⟨v1, v2, v3, v4, v5⟩ := validP_bound hv
  have h1 := call_own now (by omega)
  have h2 := call_age a now (by omega)
  rw [call_eq pr 56 _ _ Try.f56 fn_56 _ rfl _ ann_56 rfl]
  unfold stepC
  unfold ageI at h2
  cases hg : ageOf a now with
  | some i =>
    rw [hg] at h2
    simp only at h2
    have hi := ageOf_lt hg
    have hih : i < hit.length := by omega
    have hm : hit.getD i [] ∈ hit := by rw [getD_of_lt hih]; exact List.getElem_mem hih
    obtain ⟨q1, q2⟩ := v5 _ hm
    have h := loop_sst now i (by omega) (hit.getD i []) [] (fun j hj => by have := q2 j hj; omega) (by simp only [List.length_nil]; omega)
    simp only [List.nil_append, List.length_nil, perm, List.map_nil] at h
    have h : loopOf pr 56 0 ⟨[(8, .os (.t 896)), (9, I i), (10, L (hit.getD i [])), (11, .os (.t 2368)), (12, I 0)], [(896, .arr true false (.int .i64) now), (2368, .arr true false (.int .i64) [])]⟩ = _ := h
    simp -implicitDefEqProofs only [h1, h2, zero_le_cast, lt_cast hih, Int.toNat_natCast, h, perm, go_sem, Nat.reduceAdd, Nat.reduceSub, Nat.reduceMul, Nat.reduceMod, Nat.reduceLT, Nat.reduceLeDiff, Nat.reduceEqDiff, Nat.reduceBEq, Nat.reduceDiv, Int.reduceLT, Int.reduceLE, Int.reduceToNat, Int.reduceNeg, Int.reduceEq, ↓reduceIte, reduceCtorEq, ↓reduceDIte, Bool.false_eq_true, Bool.true_eq_false, ne_eq, not_true_eq_false, not_false_eq_true, Bool.true_or, Bool.false_or, Bool.or_true, Bool.or_false, Bool.true_and, Bool.false_and, Bool.and_true, Bool.and_false, Bool.not_true, Bool.not_false, Bool.not_eq_false', Bool.not_eq_true', and_true, true_and, and_false, false_and, or_true, true_or, or_false, false_or, and_self, or_self, decide_eq_true_eq, decide_true, decide_false, decide_eq_false_iff_not, ite_not, if_true, if_false, eq_self]
  | none =>
    rw [hg] at h2
    simp only at h2
    have hw : IntKind.i64.wrap ((now.length : Int) - 1) = ((now.length - 1 : Nat) : Int) := by rw [wrap_i] <;> omega
    have hlt : now.length - 1 < now.length := by omega
    have h := loop_sst (now.set (now.length - 1) a) (-1) (by rw [List.length_set]; omega) miss [] (fun j hj => by have := v4 j hj; rw [List.length_set]; omega) (by simp only [List.length_nil]; omega)
    simp only [List.nil_append, List.length_nil, perm, List.map_nil] at h
    have h : loopOf pr 56 0 ⟨[(8, .os (.t 896)), (9, I (-1)), (10, L miss), (11, .os (.t 2368)), (12, I 0)], [(896, .arr true false (.int .i64) (now.set (now.length - 1) a)), (2368, .arr true false (.int .i64) [])]⟩ = _ := h
    simp -implicitDefEqProofs only [h1, h2, zero_le_cast, lt_cast hlt, Int.toNat_natCast, hw, h, perm, go_sem, Nat.reduceAdd, Nat.reduceSub, Nat.reduceMul, Nat.reduceMod, Nat.reduceLT, Nat.reduceLeDiff, Nat.reduceEqDiff, Nat.reduceBEq, Nat.reduceDiv, Int.reduceLT, Int.reduceLE, Int.reduceToNat, Int.reduceNeg, Int.reduceEq, ↓reduceIte, reduceCtorEq, ↓reduceDIte, Bool.false_eq_true, Bool.true_eq_false, ne_eq, not_true_eq_false, not_false_eq_true, Bool.true_or, Bool.false_or, Bool.or_true, Bool.or_false, Bool.true_and, Bool.false_and, Bool.and_true, Bool.and_false, Bool.not_true, Bool.not_false, Bool.not_eq_false', Bool.not_eq_true', and_true, true_and, and_false, false_and, or_true, true_or, or_false, false_or, and_self, or_self, decide_eq_true_eq, decide_true, decide_false, decide_eq_false_iff_not, ite_not, if_true, if_false, eq_self]

theorem loop_per (cs : List Int) (hc : cs.length < 1000000) (n : Nat) : ∀ (ages done : List Int), (∀ j ∈ ages, 0 ≤ j ∧ j < (cs.length : Int)) → done.length + ages.length = n → n < 1000000 →
    loopOf pr 102 0 ⟨[(0, L cs), (5, .os (.t 512)), (9, L (done ++ ages)), (10, I n), (11, I done.length)], [(512, .arr true false (.int .i64) (perm cs done))]⟩ =
      some (.exit 0, ⟨[(0, L cs), (5, .os (.t 512)), (9, L (done ++ ages)), (10, I n), (11, I n)], [(512, .arr true false (.int .i64) (perm cs (done ++ ages)))]⟩)
  | [], done, hj, hn, hb => by
    have : n = done.length := by simp at hn; exact hn.symm
    subst this
    rw [loop_eq pr 102 0 _ Try.f102 fn_102 _ rfl _ ann_102 _ rfl]
    simp -implicitDefEqProofs only [Int.lt_irrefl, List.append_nil, go_sem, Nat.reduceAdd, Nat.reduceSub, Nat.reduceMul, Nat.reduceMod, Nat.reduceLT, Nat.reduceLeDiff, Nat.reduceEqDiff, Nat.reduceBEq, Nat.reduceDiv, Int.reduceLT, Int.reduceLE, Int.reduceToNat, Int.reduceNeg, Int.reduceEq, ↓reduceIte, reduceCtorEq, ↓reduceDIte, Bool.false_eq_true, Bool.true_eq_false, ne_eq, not_true_eq_false, not_false_eq_true, Bool.true_or, Bool.false_or, Bool.or_true, Bool.or_false, Bool.true_and, Bool.false_and, Bool.and_true, Bool.and_false, Bool.not_true, Bool.not_false, Bool.not_eq_false', Bool.not_eq_true', and_true, true_and, and_false, false_and, or_true, true_or, or_false, false_or, and_self, or_self, decide_eq_true_eq, decide_true, decide_false, decide_eq_false_iff_not, ite_not, if_true, if_false, eq_self]
  | j :: ages, done, hj, hn, hb => by
    simp only [List.length_cons] at hn
    obtain ⟨k, rfl⟩ : ∃ k : Nat, j = (k : Int) := ⟨j.toNat, by have := hj j (by simp); omega⟩
    have hk : k < cs.length := by have := (hj k (by simp)).2; omega
    have hlt : ((done.length : Int) < (n : Int)) = True := tr (by omega)
    have hw : IntKind.i64.wrap ((done.length : Int) + 1) = ((done.length + 1 : Nat) : Int) := by rw [wrap_i] <;> omega
    have ih := loop_per cs hc n ages (done ++ [(k : Int)]) (fun x hx => hj x (by simp [hx])) (by simp; omega) hb
    have e1 : (done ++ [(k : Int)]).length = done.length + 1 := by simp
    have e3 : perm cs (done ++ [(k : Int)]) = perm cs done ++ [cs.getD k 0] := by rw [perm_snoc]; rfl
    rw [e3, app_one, e1] at ih
    rw [loop_eq pr 102 0 _ Try.f102 fn_102 _ rfl _ ann_102 _ rfl]
    simp -implicitDefEqProofs only [hlt, getD_app, lt_app, ltn_app, zero_le_cast, Int.toNat_natCast, lt_cast hk, hw, tr (show ((perm cs done).length + 1) * 8 ≤ 140737488355328 ∧ (perm cs done).length ≤ 9223372036854775806 by rw [perm_length]; omega), tr (show ((perm cs done).length + 1) * 8 ≤ 140737488355328 ∧ (perm cs done).length + 1 ≤ 9223372036854775807 by rw [perm_length]; omega), go_sem, Nat.reduceAdd, Nat.reduceSub, Nat.reduceMul, Nat.reduceMod, Nat.reduceLT, Nat.reduceLeDiff, Nat.reduceEqDiff, Nat.reduceBEq, Nat.reduceDiv, Int.reduceLT, Int.reduceLE, Int.reduceToNat, Int.reduceNeg, Int.reduceEq, ↓reduceIte, reduceCtorEq, ↓reduceDIte, Bool.false_eq_true, Bool.true_eq_false, ne_eq, not_true_eq_false, not_false_eq_true, Bool.true_or, Bool.false_or, Bool.or_true, Bool.or_false, Bool.true_and, Bool.false_and, Bool.and_true, Bool.and_false, Bool.not_true, Bool.not_false, Bool.not_eq_false', Bool.not_eq_true', and_true, true_and, and_false, false_and, or_true, true_or, or_false, false_or, and_self, or_self, decide_eq_true_eq, decide_true, decide_false, decide_eq_false_iff_not, ite_not, if_true, if_false, eq_self]
    exact ih
theorem call_per (cs ages : List Int) (hc : cs.length < 1000000) (hj : ∀ j ∈ ages, 0 ≤ j ∧ j < (cs.length : Int)) (ha : ages.length < 1000000) : callOf pr 102 [L cs, L ages] [] = some (.os (.t 512), [(512, .arr true false (.int .i64) (perm cs ages))]) := by
  have h := loop_per cs hc ages.length ages [] hj (by simp) ha
  have h : loopOf pr 102 0 ⟨[(0, L cs), (5, .os (.t 512)), (9, L ages), (10, I ages.length), (11, I 0)], [(512, .arr true false (.int .i64) [])]⟩ = _ := h
  rw [call_eq pr 102 _ _ Try.f102 fn_102 _ rfl _ ann_102 rfl]
  simp -implicitDefEqProofs only [h, List.nil_append, go_sem, Nat.reduceAdd, Nat.reduceSub, Nat.reduceMul, Nat.reduceMod, Nat.reduceLT, Nat.reduceLeDiff, Nat.reduceEqDiff, Nat.reduceBEq, Nat.reduceDiv, Int.reduceLT, Int.reduceLE, Int.reduceToNat, Int.reduceNeg, Int.reduceEq, ↓reduceIte, reduceCtorEq, ↓reduceDIte, Bool.false_eq_true, Bool.true_eq_false, ne_eq, not_true_eq_false, not_false_eq_true, Bool.true_or, Bool.false_or, Bool.or_true, Bool.or_false, Bool.true_and, Bool.false_and, Bool.and_true, Bool.and_false, Bool.not_true, Bool.not_false, Bool.not_eq_false', Bool.not_eq_true', and_true, true_and, and_false, false_and, or_true, true_or, or_false, false_or, and_self, or_self, decide_eq_true_eq, decide_true, decide_false, decide_eq_false_iff_not, ite_not, if_true, if_false, eq_self]
theorem call_idx (a : Int) (now : List Int) (hb : now.length < 1000000000000000000) : callOf pr 101 [L now, I a] [] = some (I (ageI a now), []) := by
  have h := call_101 a now hb
  have e : (fun x : Int => decide (a = x)) = fun y => decide (y = a) := by
    funext y
    rw [decide_eq_decide]
    exact eq_comm
  rw [e] at h
  exact h
theorem call_ist (hit : List (List Int)) (miss now : List Int) (a : Int) (hv : validP hit miss = true) (hn : now.length = miss.length) :
    callOf pr 72 [.agg [LL hit, L miss], L now, I a] [] = match ageOf a now with
      | some i => some (.tuple [.os (.t 1536), I (-1), B true], [(1536, .arr true false (.int .i64) (perm now (hit.getD i [])))])
      | none => some (.tuple [.os (.t 2624), I (now.getD (now.length - 1) 0), B false], [(2624, .arr true false (.int .i64) (perm (now.set (now.length - 1) a) miss))]) := by
  obtain ⟨v1, v2, v3, v4, v5⟩ := validP_bound hv
  have h2 := call_idx a now (by omega)
  rw [call_eq pr 72 _ _ Try.f72 fn_72 _ rfl _ ann_72 rfl]
  unfold ageI at h2
  cases hg : ageOf a now with
  | some i =>
    rw [hg] at h2
    simp only at h2
    have hi := ageOf_lt hg
    have hih : i < hit.length := by omega
    have hm : hit.getD i [] ∈ hit := by rw [getD_of_lt hih]; exact List.getElem_mem hih
    obtain ⟨q1, q2⟩ := v5 _ hm
    have h3 := call_per now (hit.getD i []) (by omega) (fun j hj => by have := q2 j hj; omega) (by omega)
    simp -implicitDefEqProofs only [h2, zero_le_cast, lt_cast hih, Int.toNat_natCast, h3, go_sem, Nat.reduceAdd, Nat.reduceSub, Nat.reduceMul, Nat.reduceMod, Nat.reduceLT, Nat.reduceLeDiff, Nat.reduceEqDiff, Nat.reduceBEq, Nat.reduceDiv, Int.reduceLT, Int.reduceLE, Int.reduceToNat, Int.reduceNeg, Int.reduceEq, ↓reduceIte, reduceCtorEq, ↓reduceDIte, Bool.false_eq_true, Bool.true_eq_false, ne_eq, not_true_eq_false, not_false_eq_true, Bool.true_or, Bool.false_or, Bool.or_true, Bool.or_false, Bool.true_and, Bool.false_and, Bool.and_true, Bool.and_false, Bool.not_true, Bool.not_false, Bool.not_eq_false', Bool.not_eq_true', and_true, true_and, and_false, false_and, or_true, true_or, or_false, false_or, and_self, or_self, decide_eq_true_eq, decide_true, decide_false, decide_eq_false_iff_not, ite_not, if_true, if_false, eq_self]
  | none =>
    rw [hg] at h2
    simp only at h2
    have h1 := call_clone now (by omega) (by omega)
    have hw : IntKind.i64.wrap ((now.length : Int) - 1) = ((now.length - 1 : Nat) : Int) := by rw [wrap_i] <;> omega
    have hlt : now.length - 1 < now.length := by omega
    have h3 := call_per (now.set (now.length - 1) a) miss (by rw [List.length_set]; omega) (fun j hj => by have := v4 j hj; rw [List.length_set]; omega) (by omega)
    simp -implicitDefEqProofs only [h1, h2, zero_le_cast, lt_cast hlt, Int.toNat_natCast, hw, h3, go_sem, Nat.reduceAdd, Nat.reduceSub, Nat.reduceMul, Nat.reduceMod, Nat.reduceLT, Nat.reduceLeDiff, Nat.reduceEqDiff, Nat.reduceBEq, Nat.reduceDiv, Int.reduceLT, Int.reduceLE, Int.reduceToNat, Int.reduceNeg, Int.reduceEq, ↓reduceIte, reduceCtorEq, ↓reduceDIte, Bool.false_eq_true, Bool.true_eq_false, ne_eq, not_true_eq_false, not_false_eq_true, Bool.true_or, Bool.false_or, Bool.or_true, Bool.or_false, Bool.true_and, Bool.false_and, Bool.and_true, Bool.and_false, Bool.not_true, Bool.not_false, Bool.not_eq_false', Bool.not_eq_true', and_true, true_and, and_false, false_and, or_true, true_or, or_false, false_or, and_self, or_self, decide_eq_true_eq, decide_true, decide_false, decide_eq_false_iff_not, ite_not, if_true, if_false, eq_self]
theorem stepC_length {hit : List (List Int)} {miss now : List Int} (a : Int) (hv : validP hit miss = true) (hn : now.length = miss.length) : (stepC hit miss now a).1.length = miss.length := by
  obtain ⟨v1, v2, v3, v4, v5⟩ := validP_bound hv
  unfold stepC
  cases hg : ageOf a now with
  | some i =>
    have hi := ageOf_lt hg
    have hih : i < hit.length := by omega
    have hm : hit.getD i [] ∈ hit := by rw [getD_of_lt hih]; exact List.getElem_mem hih
    simp only [perm_length]
    exact (v5 _ hm).1
  | none => simp only [perm_length]
end Go.Proofs.Ytfooniikopekoaa.PI
