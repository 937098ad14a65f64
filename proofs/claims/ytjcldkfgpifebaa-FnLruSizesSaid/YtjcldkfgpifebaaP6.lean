/- A use: the reference's step and the program's. -/
import Derived.Test.YtjcldkfgpifebaaP3
namespace Go.Proofs.Ytjcldkfgpifebaa.PI
open Go Go.Q
set_option maxRecDepth 100000
set_option maxHeartbeats 4000000
set_option linter.unusedSimpArgs false
set_option linter.unusedVariables false
theorem call_clone (xs : List Int) (h0 : ¬ xs.length = 0) (hb : xs.length ≤ 1000000) : callOf pr 66 [L xs] [] = some (.os (.t 320), [(320, .arr true false (.int .i64) xs)]) := by
  have h : ((0 + xs.length) * 8 ≤ 140737488355328 ∧ 0 + xs.length ≤ 9223372036854775807) = True := tr (by omega)
  rw [call_eq pr 66 _ _ Try.f66 fn_66 _ rfl _ ann_66 rfl]
  simp -implicitDefEqProofs only [h, fa h0, go_sem, Nat.reduceAdd, Nat.reduceSub, Nat.reduceMul, Nat.reduceMod, Nat.reduceLT, Nat.reduceLeDiff, Nat.reduceEqDiff, Nat.reduceBEq, Nat.reduceDiv, Int.reduceLT, Int.reduceLE, Int.reduceToNat, Int.reduceNeg, Int.reduceEq, ↓reduceIte, reduceCtorEq, ↓reduceDIte]
/-- The age of an address. -/
def ageOf (a : Int) (now : List Int) : Option Nat := now.findIdx? fun y => decide (y = a)
def ageI (a : Int) (now : List Int) : Int := match ageOf a now with
  | some i => (i : Int)
  | none => -1
theorem ageOf_lt {a : Int} {now : List Int} {i : Nat} (h : ageOf a now = some i) : i < now.length := by
  unfold ageOf at h
  rw [List.findIdx?_eq_some_iff_getElem] at h
  exact h.1
/-- What stands at the old ages of a list. -/
def perm (cs ages : List Int) : List Int := ages.map fun j => cs.getD j.toNat 0
theorem perm_length (cs ages : List Int) : (perm cs ages).length = ages.length := by simp [perm]
/-- A use: the contents after it, what has been replaced, whether it was a hit. -/
def stepC (hit : List (List Int)) (miss now : List Int) (a : Int) : List Int × Int × Bool := match ageOf a now with
  | some i => (perm now (hit.getD i []), -1, true)
  | none => (perm (now.set (now.length - 1) a) miss, now.getD (now.length - 1) 0, false)
theorem perm_snoc (cs done : List Int) (j : Int) : perm cs (done ++ [j]) = perm cs done ++ [cs.getD j.toNat 0] := by simp [perm]
theorem loop_per (cs : List Int) (hc : cs.length < 1000000) (n : Nat) : ∀ (ages done : List Int), (∀ j ∈ ages, 0 ≤ j ∧ j < (cs.length : Int)) → done.length + ages.length = n → n < 1000000 →
    loopOf pr 65 0 ⟨[(0, L cs), (5, .os (.t 512)), (9, L (done ++ ages)), (10, I n), (11, I done.length)], [(512, .arr true false (.int .i64) (perm cs done))]⟩ =
      some (.exit 0, ⟨[(0, L cs), (5, .os (.t 512)), (9, L (done ++ ages)), (10, I n), (11, I n)], [(512, .arr true false (.int .i64) (perm cs (done ++ ages)))]⟩)
  | [], done, hj, hn, hb => by
    have : n = done.length := by simp at hn; exact hn.symm
    subst this
    rw [loop_eq pr 65 0 _ Try.f65 fn_65 _ rfl _ ann_65 _ rfl]
    simp -implicitDefEqProofs only [Int.lt_irrefl, List.append_nil, go_sem, Nat.reduceAdd, Nat.reduceSub, Nat.reduceMul, Nat.reduceMod, Nat.reduceLT, Nat.reduceLeDiff, Nat.reduceEqDiff, Nat.reduceBEq, Nat.reduceDiv, Int.reduceLT, Int.reduceLE, Int.reduceToNat, Int.reduceNeg, Int.reduceEq, ↓reduceIte, reduceCtorEq, ↓reduceDIte]
  | j :: ages, done, hj, hn, hb => by
    simp only [List.length_cons] at hn
    obtain ⟨k, rfl⟩ : ∃ k : Nat, j = (k : Int) := ⟨j.toNat, by have := hj j (by simp); omega⟩
    have hk : k < cs.length := by have := (hj k (by simp)).2; omega
    have hlt : ((done.length : Int) < (n : Int)) = True := tr (by omega)
    have hw : IntKind.i64.wrap ((done.length : Int) + 1) = ((done.length + 1 : Nat) : Int) := by rw [wrap_i] <;> omega
    have ih := loop_per cs hc n ages (done ++ [(k : Int)]) (fun x hx => hj x (by simp [hx])) (by simp; omega) hb
    have e1 : (done ++ [(k : Int)]).length = done.length + 1 := by simp
    have e3 : perm cs (done ++ [(k : Int)]) = perm cs done ++ [cs.getD k 0] := by rw [perm_snoc]; rfl
    rw [e3, app_one, e1] at ih
    rw [loop_eq pr 65 0 _ Try.f65 fn_65 _ rfl _ ann_65 _ rfl]
    simp -implicitDefEqProofs only [hlt, getD_app, lt_app, ltn_app, zero_le_cast, Int.toNat_natCast, lt_cast hk, hw, tr (show ((perm cs done).length + 1) * 8 ≤ 140737488355328 ∧ (perm cs done).length ≤ 9223372036854775806 by rw [perm_length]; omega), tr (show ((perm cs done).length + 1) * 8 ≤ 140737488355328 ∧ (perm cs done).length + 1 ≤ 9223372036854775807 by rw [perm_length]; omega), go_sem, Nat.reduceAdd, Nat.reduceSub, Nat.reduceMul, Nat.reduceMod, Nat.reduceLT, Nat.reduceLeDiff, Nat.reduceEqDiff, Nat.reduceBEq, Nat.reduceDiv, Int.reduceLT, Int.reduceLE, Int.reduceToNat, Int.reduceNeg, Int.reduceEq, ↓reduceIte, reduceCtorEq, ↓reduceDIte]
    exact ih
theorem call_per (cs ages : List Int) (hc : cs.length < 1000000) (hj : ∀ j ∈ ages, 0 ≤ j ∧ j < (cs.length : Int)) (ha : ages.length < 1000000) : callOf pr 65 [L cs, L ages] [] = some (.os (.t 512), [(512, .arr true false (.int .i64) (perm cs ages))]) := by
  have h := loop_per cs hc ages.length ages [] hj (by simp) ha
  have h : loopOf pr 65 0 ⟨[(0, L cs), (5, .os (.t 512)), (9, L ages), (10, I ages.length), (11, I 0)], [(512, .arr true false (.int .i64) [])]⟩ = _ := h
  rw [call_eq pr 65 _ _ Try.f65 fn_65 _ rfl _ ann_65 rfl]
  simp -implicitDefEqProofs only [h, List.nil_append, go_sem, Nat.reduceAdd, Nat.reduceSub, Nat.reduceMul, Nat.reduceMod, Nat.reduceLT, Nat.reduceLeDiff, Nat.reduceEqDiff, Nat.reduceBEq, Nat.reduceDiv, Int.reduceLT, Int.reduceLE, Int.reduceToNat, Int.reduceNeg, Int.reduceEq, ↓reduceIte, reduceCtorEq, ↓reduceDIte]
theorem call_idx (a : Int) (now : List Int) (hb : now.length < 1000000000000000000) : callOf pr 64 [L now, I a] [] = some (I (ageI a now), []) := by
  have h := call_64 a now hb
  have e : (fun x : Int => decide (a = x)) = fun y => decide (y = a) := by
    funext y
    rw [decide_eq_decide]
    exact eq_comm
  rw [e] at h
  exact h
theorem call_ist (hit : List (List Int)) (miss now : List Int) (a : Int) (hv : validP hit miss = true) (hn : now.length = miss.length) :
    callOf pr 58 [.agg [LL hit, L miss], L now, I a] [] = match ageOf a now with
      | some i => some (.tuple [.os (.t 1536), I (-1), B true], [(1536, .arr true false (.int .i64) (perm now (hit.getD i [])))])
      | none => some (.tuple [.os (.t 2624), I (now.getD (now.length - 1) 0), B false], [(2624, .arr true false (.int .i64) (perm (now.set (now.length - 1) a) miss))]) := by
  obtain ⟨v1, v2, v3, v4, v5⟩ := validP_bound hv
  have h2 := call_idx a now (by omega)
  rw [call_eq pr 58 _ _ Try.f58 fn_58 _ rfl _ ann_58 rfl]
  unfold ageI at h2
  cases hg : ageOf a now with
  | some i =>
    rw [hg] at h2
    simp only at h2
    have hi := ageOf_lt hg
    have hih : i < hit.length := by omega
    have hm : hit.getD i [] ∈ hit := by rw [getD_of_lt hih]; exact List.getElem_mem hih
    obtain ⟨q1, q2⟩ := v5 _ hm
    have h3 := call_per now (hit.getD i []) (by omega) (fun j hj => by have := q2 j hj; omega) (by omega)
    simp -implicitDefEqProofs only [h2, zero_le_cast, lt_cast hih, Int.toNat_natCast, h3, go_sem, Nat.reduceAdd, Nat.reduceSub, Nat.reduceMul, Nat.reduceMod, Nat.reduceLT, Nat.reduceLeDiff, Nat.reduceEqDiff, Nat.reduceBEq, Nat.reduceDiv, Int.reduceLT, Int.reduceLE, Int.reduceToNat, Int.reduceNeg, Int.reduceEq, ↓reduceIte, reduceCtorEq, ↓reduceDIte]
  | none =>
    rw [hg] at h2
    simp only at h2
    have h1 := call_clone now (by omega) (by omega)
    have hw : IntKind.i64.wrap ((now.length : Int) - 1) = ((now.length - 1 : Nat) : Int) := by rw [wrap_i] <;> omega
    have hlt : now.length - 1 < now.length := by omega
    have h3 := call_per (now.set (now.length - 1) a) miss (by rw [List.length_set]; omega) (fun j hj => by have := v4 j hj; rw [List.length_set]; omega) (by omega)
    simp -implicitDefEqProofs only [h1, h2, zero_le_cast, lt_cast hlt, Int.toNat_natCast, hw, h3, go_sem, Nat.reduceAdd, Nat.reduceSub, Nat.reduceMul, Nat.reduceMod, Nat.reduceLT, Nat.reduceLeDiff, Nat.reduceEqDiff, Nat.reduceBEq, Nat.reduceDiv, Int.reduceLT, Int.reduceLE, Int.reduceToNat, Int.reduceNeg, Int.reduceEq, ↓reduceIte, reduceCtorEq, ↓reduceDIte]
theorem stepC_length {hit : List (List Int)} {miss now : List Int} (a : Int) (hv : validP hit miss = true) (hn : now.length = miss.length) : (stepC hit miss now a).1.length = miss.length := by
  obtain ⟨v1, v2, v3, v4, v5⟩ := validP_bound hv
  unfold stepC
  cases hg : ageOf a now with
  | some i =>
    have hi := ageOf_lt hg
    have hih : i < hit.length := by omega
    have hm : hit.getD i [] ∈ hit := by rw [getD_of_lt hih]; exact List.getElem_mem hih
    simp only [perm_length]
    exact (v5 _ hm).1
  | none => simp only [perm_length]
theorem mul64_lit (n : Int) (h : n = 1 ∨ n = 2 ∨ n = 3 ∨ n = 4 ∨ n = 5 ∨ n = 6) : callOf pr 87 [.d (.int .u64) 1, .d (.int .u64) n] [] = some (.tuple [.d (.int .u64) 0, .d (.int .u64) n], []) := by
  rcases h with rfl | rfl | rfl | rfl | rfl | rfl <;>
  · rw [call_eq pr 87 _ _ Try.f87 fn_87 _ rfl _ ann_87 rfl]
    simp -implicitDefEqProofs only [go_sem, Nat.reduceAdd, Nat.reduceSub, Nat.reduceMul, Nat.reduceMod, Nat.reduceLT, Nat.reduceLeDiff, Nat.reduceEqDiff, Nat.reduceBEq, Nat.reduceDiv, Int.reduceLT, Int.reduceLE, Int.reduceToNat, Int.reduceNeg, Int.reduceEq, ↓reduceIte, reduceCtorEq, ↓reduceDIte]
    rfl
theorem mul_lit (n : Int) (h : n = 1 ∨ n = 2 ∨ n = 3 ∨ n = 4 ∨ n = 5 ∨ n = 6) : callOf pr 79 [.d (.int .u64) 1, .d (.int .u64) n] [] = some (.tuple [.d (.int .u64) 0, .d (.int .u64) n], []) := by
  have h64 := mul64_lit n h
  have hw : IntKind.u64.wrap n = n := by rw [wrap_u64] <;> omega
  have hw1 : IntKind.u64.wrap 1 = 1 := rfl
  have hw0 : IntKind.u64.wrap 0 = 0 := rfl
  rw [call_eq pr 79 _ _ Try.f79 fn_79 _ rfl _ ann_79 rfl]
  simp -implicitDefEqProofs only [h64, hw, hw1, hw0, go_sem, Nat.reduceAdd, Nat.reduceSub, Nat.reduceMul, Nat.reduceMod, Nat.reduceLT, Nat.reduceLeDiff, Nat.reduceEqDiff, Nat.reduceBEq, Nat.reduceDiv, Int.reduceLT, Int.reduceLE, Int.reduceToNat, Int.reduceNeg, Int.reduceEq, ↓reduceIte, reduceCtorEq, ↓reduceDIte]
theorem rep_1_1 : loopOf pr 63 0 ⟨[(7, .os (.t 1920)), (8, I 1)], [(1920, .arr true false (.int .i64) [(-1 : Int)])]⟩ = some (.exit 0, ⟨[(7, .os (.t 1920)), (8, I 1)], [(1920, .arr true false (.int .i64) [(-1 : Int)])]⟩) := by
  rw [loop_eq pr 63 0 _ Try.f63 fn_63 _ rfl _ ann_63 _ rfl]
  simp -implicitDefEqProofs only [Int.reduceMul, Int.reduceAdd, Int.reduceSub, Int.reduceNeg, Int.natCast_zero, Int.cast_ofNat_Int, Int.toNat_natCast, List.replicate, copyIn, Int.reduceLT, Nat.min_def, Int.natCast_one, Nat.le_refl, Int.le_refl, Nat.zero_add, Nat.add_zero, Nat.sub_zero, Int.natCast_add, go_sem, Nat.reduceAdd, Nat.reduceSub, Nat.reduceMul, Nat.reduceMod, Nat.reduceLT, Nat.reduceLeDiff, Nat.reduceEqDiff, Nat.reduceBEq, Nat.reduceDiv, Int.reduceLT, Int.reduceLE, Int.reduceToNat, Int.reduceNeg, Int.reduceEq, ↓reduceIte, reduceCtorEq, ↓reduceDIte]
theorem rep_2_2 : loopOf pr 63 0 ⟨[(7, .os (.t 1920)), (8, I 2)], [(1920, .arr true false (.int .i64) [(-1 : Int), (-1 : Int)])]⟩ = some (.exit 0, ⟨[(7, .os (.t 1920)), (8, I 2)], [(1920, .arr true false (.int .i64) [(-1 : Int), (-1 : Int)])]⟩) := by
  rw [loop_eq pr 63 0 _ Try.f63 fn_63 _ rfl _ ann_63 _ rfl]
  simp -implicitDefEqProofs only [Int.reduceMul, Int.reduceAdd, Int.reduceSub, Int.reduceNeg, Int.natCast_zero, Int.cast_ofNat_Int, Int.toNat_natCast, List.replicate, copyIn, Int.reduceLT, Nat.min_def, Int.natCast_one, Nat.le_refl, Int.le_refl, Nat.zero_add, Nat.add_zero, Nat.sub_zero, Int.natCast_add, go_sem, Nat.reduceAdd, Nat.reduceSub, Nat.reduceMul, Nat.reduceMod, Nat.reduceLT, Nat.reduceLeDiff, Nat.reduceEqDiff, Nat.reduceBEq, Nat.reduceDiv, Int.reduceLT, Int.reduceLE, Int.reduceToNat, Int.reduceNeg, Int.reduceEq, ↓reduceIte, reduceCtorEq, ↓reduceDIte]
theorem rep_2_1 : loopOf pr 63 0 ⟨[(7, .os (.t 1920)), (8, I 1)], [(1920, .arr true false (.int .i64) [(-1 : Int), (0 : Int)])]⟩ = some (.exit 0, ⟨[(7, .os (.t 1920)), (8, I 2)], [(1920, .arr true false (.int .i64) [(-1 : Int), (-1 : Int)])]⟩) := by
  rw [loop_eq pr 63 0 _ Try.f63 fn_63 _ rfl _ ann_63 _ rfl]
  have hw : IntKind.i64.wrap (1 + 1) = 2 := rfl
  simp -implicitDefEqProofs only [Int.reduceMul, Int.reduceAdd, Int.reduceSub, Int.reduceNeg, Int.natCast_zero, Int.cast_ofNat_Int, Int.toNat_natCast, List.replicate, copyIn, Int.reduceLT, Nat.min_def, Int.natCast_one, Nat.le_refl, Int.le_refl, Nat.zero_add, Nat.add_zero, Nat.sub_zero, Int.natCast_add, hw, go_sem, Nat.reduceAdd, Nat.reduceSub, Nat.reduceMul, Nat.reduceMod, Nat.reduceLT, Nat.reduceLeDiff, Nat.reduceEqDiff, Nat.reduceBEq, Nat.reduceDiv, Int.reduceLT, Int.reduceLE, Int.reduceToNat, Int.reduceNeg, Int.reduceEq, ↓reduceIte, reduceCtorEq, ↓reduceDIte]
  exact rep_2_2
theorem rep_3_3 : loopOf pr 63 0 ⟨[(7, .os (.t 1920)), (8, I 3)], [(1920, .arr true false (.int .i64) [(-1 : Int), (-1 : Int), (-1 : Int)])]⟩ = some (.exit 0, ⟨[(7, .os (.t 1920)), (8, I 3)], [(1920, .arr true false (.int .i64) [(-1 : Int), (-1 : Int), (-1 : Int)])]⟩) := by
  rw [loop_eq pr 63 0 _ Try.f63 fn_63 _ rfl _ ann_63 _ rfl]
  simp -implicitDefEqProofs only [Int.reduceMul, Int.reduceAdd, Int.reduceSub, Int.reduceNeg, Int.natCast_zero, Int.cast_ofNat_Int, Int.toNat_natCast, List.replicate, copyIn, Int.reduceLT, Nat.min_def, Int.natCast_one, Nat.le_refl, Int.le_refl, Nat.zero_add, Nat.add_zero, Nat.sub_zero, Int.natCast_add, go_sem, Nat.reduceAdd, Nat.reduceSub, Nat.reduceMul, Nat.reduceMod, Nat.reduceLT, Nat.reduceLeDiff, Nat.reduceEqDiff, Nat.reduceBEq, Nat.reduceDiv, Int.reduceLT, Int.reduceLE, Int.reduceToNat, Int.reduceNeg, Int.reduceEq, ↓reduceIte, reduceCtorEq, ↓reduceDIte]
theorem rep_3_2 : loopOf pr 63 0 ⟨[(7, .os (.t 1920)), (8, I 2)], [(1920, .arr true false (.int .i64) [(-1 : Int), (-1 : Int), (0 : Int)])]⟩ = some (.exit 0, ⟨[(7, .os (.t 1920)), (8, I 3)], [(1920, .arr true false (.int .i64) [(-1 : Int), (-1 : Int), (-1 : Int)])]⟩) := by
  rw [loop_eq pr 63 0 _ Try.f63 fn_63 _ rfl _ ann_63 _ rfl]
  have hw : IntKind.i64.wrap (2 + 1) = 3 := rfl
  simp -implicitDefEqProofs only [Int.reduceMul, Int.reduceAdd, Int.reduceSub, Int.reduceNeg, Int.natCast_zero, Int.cast_ofNat_Int, Int.toNat_natCast, List.replicate, copyIn, Int.reduceLT, Nat.min_def, Int.natCast_one, Nat.le_refl, Int.le_refl, Nat.zero_add, Nat.add_zero, Nat.sub_zero, Int.natCast_add, hw, go_sem, Nat.reduceAdd, Nat.reduceSub, Nat.reduceMul, Nat.reduceMod, Nat.reduceLT, Nat.reduceLeDiff, Nat.reduceEqDiff, Nat.reduceBEq, Nat.reduceDiv, Int.reduceLT, Int.reduceLE, Int.reduceToNat, Int.reduceNeg, Int.reduceEq, ↓reduceIte, reduceCtorEq, ↓reduceDIte]
  exact rep_3_3
theorem rep_3_1 : loopOf pr 63 0 ⟨[(7, .os (.t 1920)), (8, I 1)], [(1920, .arr true false (.int .i64) [(-1 : Int), (0 : Int), (0 : Int)])]⟩ = some (.exit 0, ⟨[(7, .os (.t 1920)), (8, I 3)], [(1920, .arr true false (.int .i64) [(-1 : Int), (-1 : Int), (-1 : Int)])]⟩) := by
  rw [loop_eq pr 63 0 _ Try.f63 fn_63 _ rfl _ ann_63 _ rfl]
  have hw : IntKind.i64.wrap (1 + 1) = 2 := rfl
  simp -implicitDefEqProofs only [Int.reduceMul, Int.reduceAdd, Int.reduceSub, Int.reduceNeg, Int.natCast_zero, Int.cast_ofNat_Int, Int.toNat_natCast, List.replicate, copyIn, Int.reduceLT, Nat.min_def, Int.natCast_one, Nat.le_refl, Int.le_refl, Nat.zero_add, Nat.add_zero, Nat.sub_zero, Int.natCast_add, hw, go_sem, Nat.reduceAdd, Nat.reduceSub, Nat.reduceMul, Nat.reduceMod, Nat.reduceLT, Nat.reduceLeDiff, Nat.reduceEqDiff, Nat.reduceBEq, Nat.reduceDiv, Int.reduceLT, Int.reduceLE, Int.reduceToNat, Int.reduceNeg, Int.reduceEq, ↓reduceIte, reduceCtorEq, ↓reduceDIte]
  exact rep_3_2
theorem rep_4_4 : loopOf pr 63 0 ⟨[(7, .os (.t 1920)), (8, I 4)], [(1920, .arr true false (.int .i64) [(-1 : Int), (-1 : Int), (-1 : Int), (-1 : Int)])]⟩ = some (.exit 0, ⟨[(7, .os (.t 1920)), (8, I 4)], [(1920, .arr true false (.int .i64) [(-1 : Int), (-1 : Int), (-1 : Int), (-1 : Int)])]⟩) := by
  rw [loop_eq pr 63 0 _ Try.f63 fn_63 _ rfl _ ann_63 _ rfl]
  simp -implicitDefEqProofs only [Int.reduceMul, Int.reduceAdd, Int.reduceSub, Int.reduceNeg, Int.natCast_zero, Int.cast_ofNat_Int, Int.toNat_natCast, List.replicate, copyIn, Int.reduceLT, Nat.min_def, Int.natCast_one, Nat.le_refl, Int.le_refl, Nat.zero_add, Nat.add_zero, Nat.sub_zero, Int.natCast_add, go_sem, Nat.reduceAdd, Nat.reduceSub, Nat.reduceMul, Nat.reduceMod, Nat.reduceLT, Nat.reduceLeDiff, Nat.reduceEqDiff, Nat.reduceBEq, Nat.reduceDiv, Int.reduceLT, Int.reduceLE, Int.reduceToNat, Int.reduceNeg, Int.reduceEq, ↓reduceIte, reduceCtorEq, ↓reduceDIte]
theorem rep_4_2 : loopOf pr 63 0 ⟨[(7, .os (.t 1920)), (8, I 2)], [(1920, .arr true false (.int .i64) [(-1 : Int), (-1 : Int), (0 : Int), (0 : Int)])]⟩ = some (.exit 0, ⟨[(7, .os (.t 1920)), (8, I 4)], [(1920, .arr true false (.int .i64) [(-1 : Int), (-1 : Int), (-1 : Int), (-1 : Int)])]⟩) := by
  rw [loop_eq pr 63 0 _ Try.f63 fn_63 _ rfl _ ann_63 _ rfl]
  have hw : IntKind.i64.wrap (2 + 2) = 4 := rfl
  simp -implicitDefEqProofs only [Int.reduceMul, Int.reduceAdd, Int.reduceSub, Int.reduceNeg, Int.natCast_zero, Int.cast_ofNat_Int, Int.toNat_natCast, List.replicate, copyIn, Int.reduceLT, Nat.min_def, Int.natCast_one, Nat.le_refl, Int.le_refl, Nat.zero_add, Nat.add_zero, Nat.sub_zero, Int.natCast_add, hw, go_sem, Nat.reduceAdd, Nat.reduceSub, Nat.reduceMul, Nat.reduceMod, Nat.reduceLT, Nat.reduceLeDiff, Nat.reduceEqDiff, Nat.reduceBEq, Nat.reduceDiv, Int.reduceLT, Int.reduceLE, Int.reduceToNat, Int.reduceNeg, Int.reduceEq, ↓reduceIte, reduceCtorEq, ↓reduceDIte]
  exact rep_4_4
theorem rep_4_1 : loopOf pr 63 0 ⟨[(7, .os (.t 1920)), (8, I 1)], [(1920, .arr true false (.int .i64) [(-1 : Int), (0 : Int), (0 : Int), (0 : Int)])]⟩ = some (.exit 0, ⟨[(7, .os (.t 1920)), (8, I 4)], [(1920, .arr true false (.int .i64) [(-1 : Int), (-1 : Int), (-1 : Int), (-1 : Int)])]⟩) := by
  rw [loop_eq pr 63 0 _ Try.f63 fn_63 _ rfl _ ann_63 _ rfl]
  have hw : IntKind.i64.wrap (1 + 1) = 2 := rfl
  simp -implicitDefEqProofs only [Int.reduceMul, Int.reduceAdd, Int.reduceSub, Int.reduceNeg, Int.natCast_zero, Int.cast_ofNat_Int, Int.toNat_natCast, List.replicate, copyIn, Int.reduceLT, Nat.min_def, Int.natCast_one, Nat.le_refl, Int.le_refl, Nat.zero_add, Nat.add_zero, Nat.sub_zero, Int.natCast_add, hw, go_sem, Nat.reduceAdd, Nat.reduceSub, Nat.reduceMul, Nat.reduceMod, Nat.reduceLT, Nat.reduceLeDiff, Nat.reduceEqDiff, Nat.reduceBEq, Nat.reduceDiv, Int.reduceLT, Int.reduceLE, Int.reduceToNat, Int.reduceNeg, Int.reduceEq, ↓reduceIte, reduceCtorEq, ↓reduceDIte]
  exact rep_4_2
theorem rep_5_5 : loopOf pr 63 0 ⟨[(7, .os (.t 1920)), (8, I 5)], [(1920, .arr true false (.int .i64) [(-1 : Int), (-1 : Int), (-1 : Int), (-1 : Int), (-1 : Int)])]⟩ = some (.exit 0, ⟨[(7, .os (.t 1920)), (8, I 5)], [(1920, .arr true false (.int .i64) [(-1 : Int), (-1 : Int), (-1 : Int), (-1 : Int), (-1 : Int)])]⟩) := by
  rw [loop_eq pr 63 0 _ Try.f63 fn_63 _ rfl _ ann_63 _ rfl]
  simp -implicitDefEqProofs only [Int.reduceMul, Int.reduceAdd, Int.reduceSub, Int.reduceNeg, Int.natCast_zero, Int.cast_ofNat_Int, Int.toNat_natCast, List.replicate, copyIn, Int.reduceLT, Nat.min_def, Int.natCast_one, Nat.le_refl, Int.le_refl, Nat.zero_add, Nat.add_zero, Nat.sub_zero, Int.natCast_add, go_sem, Nat.reduceAdd, Nat.reduceSub, Nat.reduceMul, Nat.reduceMod, Nat.reduceLT, Nat.reduceLeDiff, Nat.reduceEqDiff, Nat.reduceBEq, Nat.reduceDiv, Int.reduceLT, Int.reduceLE, Int.reduceToNat, Int.reduceNeg, Int.reduceEq, ↓reduceIte, reduceCtorEq, ↓reduceDIte]
theorem rep_5_4 : loopOf pr 63 0 ⟨[(7, .os (.t 1920)), (8, I 4)], [(1920, .arr true false (.int .i64) [(-1 : Int), (-1 : Int), (-1 : Int), (-1 : Int), (0 : Int)])]⟩ = some (.exit 0, ⟨[(7, .os (.t 1920)), (8, I 5)], [(1920, .arr true false (.int .i64) [(-1 : Int), (-1 : Int), (-1 : Int), (-1 : Int), (-1 : Int)])]⟩) := by
  rw [loop_eq pr 63 0 _ Try.f63 fn_63 _ rfl _ ann_63 _ rfl]
  have hw : IntKind.i64.wrap (4 + 1) = 5 := rfl
  simp -implicitDefEqProofs only [Int.reduceMul, Int.reduceAdd, Int.reduceSub, Int.reduceNeg, Int.natCast_zero, Int.cast_ofNat_Int, Int.toNat_natCast, List.replicate, copyIn, Int.reduceLT, Nat.min_def, Int.natCast_one, Nat.le_refl, Int.le_refl, Nat.zero_add, Nat.add_zero, Nat.sub_zero, Int.natCast_add, hw, go_sem, Nat.reduceAdd, Nat.reduceSub, Nat.reduceMul, Nat.reduceMod, Nat.reduceLT, Nat.reduceLeDiff, Nat.reduceEqDiff, Nat.reduceBEq, Nat.reduceDiv, Int.reduceLT, Int.reduceLE, Int.reduceToNat, Int.reduceNeg, Int.reduceEq, ↓reduceIte, reduceCtorEq, ↓reduceDIte]
  exact rep_5_5
theorem rep_5_2 : loopOf pr 63 0 ⟨[(7, .os (.t 1920)), (8, I 2)], [(1920, .arr true false (.int .i64) [(-1 : Int), (-1 : Int), (0 : Int), (0 : Int), (0 : Int)])]⟩ = some (.exit 0, ⟨[(7, .os (.t 1920)), (8, I 5)], [(1920, .arr true false (.int .i64) [(-1 : Int), (-1 : Int), (-1 : Int), (-1 : Int), (-1 : Int)])]⟩) := by
  rw [loop_eq pr 63 0 _ Try.f63 fn_63 _ rfl _ ann_63 _ rfl]
  have hw : IntKind.i64.wrap (2 + 2) = 4 := rfl
  simp -implicitDefEqProofs only [Int.reduceMul, Int.reduceAdd, Int.reduceSub, Int.reduceNeg, Int.natCast_zero, Int.cast_ofNat_Int, Int.toNat_natCast, List.replicate, copyIn, Int.reduceLT, Nat.min_def, Int.natCast_one, Nat.le_refl, Int.le_refl, Nat.zero_add, Nat.add_zero, Nat.sub_zero, Int.natCast_add, hw, go_sem, Nat.reduceAdd, Nat.reduceSub, Nat.reduceMul, Nat.reduceMod, Nat.reduceLT, Nat.reduceLeDiff, Nat.reduceEqDiff, Nat.reduceBEq, Nat.reduceDiv, Int.reduceLT, Int.reduceLE, Int.reduceToNat, Int.reduceNeg, Int.reduceEq, ↓reduceIte, reduceCtorEq, ↓reduceDIte]
  exact rep_5_4
theorem rep_5_1 : loopOf pr 63 0 ⟨[(7, .os (.t 1920)), (8, I 1)], [(1920, .arr true false (.int .i64) [(-1 : Int), (0 : Int), (0 : Int), (0 : Int), (0 : Int)])]⟩ = some (.exit 0, ⟨[(7, .os (.t 1920)), (8, I 5)], [(1920, .arr true false (.int .i64) [(-1 : Int), (-1 : Int), (-1 : Int), (-1 : Int), (-1 : Int)])]⟩) := by
  rw [loop_eq pr 63 0 _ Try.f63 fn_63 _ rfl _ ann_63 _ rfl]
  have hw : IntKind.i64.wrap (1 + 1) = 2 := rfl
  simp -implicitDefEqProofs only [Int.reduceMul, Int.reduceAdd, Int.reduceSub, Int.reduceNeg, Int.natCast_zero, Int.cast_ofNat_Int, Int.toNat_natCast, List.replicate, copyIn, Int.reduceLT, Nat.min_def, Int.natCast_one, Nat.le_refl, Int.le_refl, Nat.zero_add, Nat.add_zero, Nat.sub_zero, Int.natCast_add, hw, go_sem, Nat.reduceAdd, Nat.reduceSub, Nat.reduceMul, Nat.reduceMod, Nat.reduceLT, Nat.reduceLeDiff, Nat.reduceEqDiff, Nat.reduceBEq, Nat.reduceDiv, Int.reduceLT, Int.reduceLE, Int.reduceToNat, Int.reduceNeg, Int.reduceEq, ↓reduceIte, reduceCtorEq, ↓reduceDIte]
  exact rep_5_2
theorem rep_6_6 : loopOf pr 63 0 ⟨[(7, .os (.t 1920)), (8, I 6)], [(1920, .arr true false (.int .i64) [(-1 : Int), (-1 : Int), (-1 : Int), (-1 : Int), (-1 : Int), (-1 : Int)])]⟩ = some (.exit 0, ⟨[(7, .os (.t 1920)), (8, I 6)], [(1920, .arr true false (.int .i64) [(-1 : Int), (-1 : Int), (-1 : Int), (-1 : Int), (-1 : Int), (-1 : Int)])]⟩) := by
  rw [loop_eq pr 63 0 _ Try.f63 fn_63 _ rfl _ ann_63 _ rfl]
  simp -implicitDefEqProofs only [Int.reduceMul, Int.reduceAdd, Int.reduceSub, Int.reduceNeg, Int.natCast_zero, Int.cast_ofNat_Int, Int.toNat_natCast, List.replicate, copyIn, Int.reduceLT, Nat.min_def, Int.natCast_one, Nat.le_refl, Int.le_refl, Nat.zero_add, Nat.add_zero, Nat.sub_zero, Int.natCast_add, go_sem, Nat.reduceAdd, Nat.reduceSub, Nat.reduceMul, Nat.reduceMod, Nat.reduceLT, Nat.reduceLeDiff, Nat.reduceEqDiff, Nat.reduceBEq, Nat.reduceDiv, Int.reduceLT, Int.reduceLE, Int.reduceToNat, Int.reduceNeg, Int.reduceEq, ↓reduceIte, reduceCtorEq, ↓reduceDIte]
theorem rep_6_4 : loopOf pr 63 0 ⟨[(7, .os (.t 1920)), (8, I 4)], [(1920, .arr true false (.int .i64) [(-1 : Int), (-1 : Int), (-1 : Int), (-1 : Int), (0 : Int), (0 : Int)])]⟩ = some (.exit 0, ⟨[(7, .os (.t 1920)), (8, I 6)], [(1920, .arr true false (.int .i64) [(-1 : Int), (-1 : Int), (-1 : Int), (-1 : Int), (-1 : Int), (-1 : Int)])]⟩) := by
  rw [loop_eq pr 63 0 _ Try.f63 fn_63 _ rfl _ ann_63 _ rfl]
  have hw : IntKind.i64.wrap (4 + 2) = 6 := rfl
  simp -implicitDefEqProofs only [Int.reduceMul, Int.reduceAdd, Int.reduceSub, Int.reduceNeg, Int.natCast_zero, Int.cast_ofNat_Int, Int.toNat_natCast, List.replicate, copyIn, Int.reduceLT, Nat.min_def, Int.natCast_one, Nat.le_refl, Int.le_refl, Nat.zero_add, Nat.add_zero, Nat.sub_zero, Int.natCast_add, hw, go_sem, Nat.reduceAdd, Nat.reduceSub, Nat.reduceMul, Nat.reduceMod, Nat.reduceLT, Nat.reduceLeDiff, Nat.reduceEqDiff, Nat.reduceBEq, Nat.reduceDiv, Int.reduceLT, Int.reduceLE, Int.reduceToNat, Int.reduceNeg, Int.reduceEq, ↓reduceIte, reduceCtorEq, ↓reduceDIte]
  exact rep_6_6
theorem rep_6_2 : loopOf pr 63 0 ⟨[(7, .os (.t 1920)), (8, I 2)], [(1920, .arr true false (.int .i64) [(-1 : Int), (-1 : Int), (0 : Int), (0 : Int), (0 : Int), (0 : Int)])]⟩ = some (.exit 0, ⟨[(7, .os (.t 1920)), (8, I 6)], [(1920, .arr true false (.int .i64) [(-1 : Int), (-1 : Int), (-1 : Int), (-1 : Int), (-1 : Int), (-1 : Int)])]⟩) := by
  rw [loop_eq pr 63 0 _ Try.f63 fn_63 _ rfl _ ann_63 _ rfl]
  have hw : IntKind.i64.wrap (2 + 2) = 4 := rfl
  simp -implicitDefEqProofs only [Int.reduceMul, Int.reduceAdd, Int.reduceSub, Int.reduceNeg, Int.natCast_zero, Int.cast_ofNat_Int, Int.toNat_natCast, List.replicate, copyIn, Int.reduceLT, Nat.min_def, Int.natCast_one, Nat.le_refl, Int.le_refl, Nat.zero_add, Nat.add_zero, Nat.sub_zero, Int.natCast_add, hw, go_sem, Nat.reduceAdd, Nat.reduceSub, Nat.reduceMul, Nat.reduceMod, Nat.reduceLT, Nat.reduceLeDiff, Nat.reduceEqDiff, Nat.reduceBEq, Nat.reduceDiv, Int.reduceLT, Int.reduceLE, Int.reduceToNat, Int.reduceNeg, Int.reduceEq, ↓reduceIte, reduceCtorEq, ↓reduceDIte]
  exact rep_6_4
theorem rep_6_1 : loopOf pr 63 0 ⟨[(7, .os (.t 1920)), (8, I 1)], [(1920, .arr true false (.int .i64) [(-1 : Int), (0 : Int), (0 : Int), (0 : Int), (0 : Int), (0 : Int)])]⟩ = some (.exit 0, ⟨[(7, .os (.t 1920)), (8, I 6)], [(1920, .arr true false (.int .i64) [(-1 : Int), (-1 : Int), (-1 : Int), (-1 : Int), (-1 : Int), (-1 : Int)])]⟩) := by
  rw [loop_eq pr 63 0 _ Try.f63 fn_63 _ rfl _ ann_63 _ rfl]
  have hw : IntKind.i64.wrap (1 + 1) = 2 := rfl
  simp -implicitDefEqProofs only [Int.reduceMul, Int.reduceAdd, Int.reduceSub, Int.reduceNeg, Int.natCast_zero, Int.cast_ofNat_Int, Int.toNat_natCast, List.replicate, copyIn, Int.reduceLT, Nat.min_def, Int.natCast_one, Nat.le_refl, Int.le_refl, Nat.zero_add, Nat.add_zero, Nat.sub_zero, Int.natCast_add, hw, go_sem, Nat.reduceAdd, Nat.reduceSub, Nat.reduceMul, Nat.reduceMod, Nat.reduceLT, Nat.reduceLeDiff, Nat.reduceEqDiff, Nat.reduceBEq, Nat.reduceDiv, Int.reduceLT, Int.reduceLE, Int.reduceToNat, Int.reduceNeg, Int.reduceEq, ↓reduceIte, reduceCtorEq, ↓reduceDIte]
  exact rep_6_2
theorem call_rep (n : Int) (h : n = 1 ∨ n = 2 ∨ n = 3 ∨ n = 4 ∨ n = 5 ∨ n = 6) : callOf pr 63 [L [-1], I n] [] = some (.os (.t 1920), [(1920, .arr true false (.int .i64) (List.replicate n.toNat (-1)))]) := by
  have hm := mul_lit n h
  have hw : IntKind.u64.wrap n = n := by rw [wrap_u64] <;> omega
  have hw2 : IntKind.i64.wrap n = n := by rw [wrap_i] <;> omega
  have hw1 : IntKind.u64.wrap 1 = 1 := rfl
  rw [call_eq pr 63 _ _ Try.f63 fn_63 _ rfl _ ann_63 rfl]
  rcases h with rfl | rfl | rfl | rfl | rfl | rfl
  · simp -implicitDefEqProofs only [hm, hw, hw1, hw2, Int.reduceMul, Int.reduceAdd, Int.reduceSub, Int.reduceNeg, Int.natCast_zero, Int.cast_ofNat_Int, Int.toNat_natCast, List.replicate, copyIn, Int.reduceLT, Nat.min_def, Int.natCast_one, Nat.le_refl, Int.le_refl, Nat.zero_add, Nat.add_zero, Nat.sub_zero, Int.natCast_add, go_sem, Nat.reduceAdd, Nat.reduceSub, Nat.reduceMul, Nat.reduceMod, Nat.reduceLT, Nat.reduceLeDiff, Nat.reduceEqDiff, Nat.reduceBEq, Nat.reduceDiv, Int.reduceLT, Int.reduceLE, Int.reduceToNat, Int.reduceNeg, Int.reduceEq, ↓reduceIte, reduceCtorEq, ↓reduceDIte]
    erw [rep_1_1]
    simp -implicitDefEqProofs only [go_sem, Nat.reduceAdd, Nat.reduceSub, Nat.reduceMul, Nat.reduceMod, Nat.reduceLT, Nat.reduceLeDiff, Nat.reduceEqDiff, Nat.reduceBEq, Nat.reduceDiv, Int.reduceLT, Int.reduceLE, Int.reduceToNat, Int.reduceNeg, Int.reduceEq, ↓reduceIte, reduceCtorEq, ↓reduceDIte]
  · simp -implicitDefEqProofs only [hm, hw, hw1, hw2, Int.reduceMul, Int.reduceAdd, Int.reduceSub, Int.reduceNeg, Int.natCast_zero, Int.cast_ofNat_Int, Int.toNat_natCast, List.replicate, copyIn, Int.reduceLT, Nat.min_def, Int.natCast_one, Nat.le_refl, Int.le_refl, Nat.zero_add, Nat.add_zero, Nat.sub_zero, Int.natCast_add, go_sem, Nat.reduceAdd, Nat.reduceSub, Nat.reduceMul, Nat.reduceMod, Nat.reduceLT, Nat.reduceLeDiff, Nat.reduceEqDiff, Nat.reduceBEq, Nat.reduceDiv, Int.reduceLT, Int.reduceLE, Int.reduceToNat, Int.reduceNeg, Int.reduceEq, ↓reduceIte, reduceCtorEq, ↓reduceDIte]
    erw [rep_2_1]
    simp -implicitDefEqProofs only [go_sem, Nat.reduceAdd, Nat.reduceSub, Nat.reduceMul, Nat.reduceMod, Nat.reduceLT, Nat.reduceLeDiff, Nat.reduceEqDiff, Nat.reduceBEq, Nat.reduceDiv, Int.reduceLT, Int.reduceLE, Int.reduceToNat, Int.reduceNeg, Int.reduceEq, ↓reduceIte, reduceCtorEq, ↓reduceDIte]
  · simp -implicitDefEqProofs only [hm, hw, hw1, hw2, Int.reduceMul, Int.reduceAdd, Int.reduceSub, Int.reduceNeg, Int.natCast_zero, Int.cast_ofNat_Int, Int.toNat_natCast, List.replicate, copyIn, Int.reduceLT, Nat.min_def, Int.natCast_one, Nat.le_refl, Int.le_refl, Nat.zero_add, Nat.add_zero, Nat.sub_zero, Int.natCast_add, go_sem, Nat.reduceAdd, Nat.reduceSub, Nat.reduceMul, Nat.reduceMod, Nat.reduceLT, Nat.reduceLeDiff, Nat.reduceEqDiff, Nat.reduceBEq, Nat.reduceDiv, Int.reduceLT, Int.reduceLE, Int.reduceToNat, Int.reduceNeg, Int.reduceEq, ↓reduceIte, reduceCtorEq, ↓reduceDIte]
    erw [rep_3_1]
    simp -implicitDefEqProofs only [go_sem, Nat.reduceAdd, Nat.reduceSub, Nat.reduceMul, Nat.reduceMod, Nat.reduceLT, Nat.reduceLeDiff, Nat.reduceEqDiff, Nat.reduceBEq, Nat.reduceDiv, Int.reduceLT, Int.reduceLE, Int.reduceToNat, Int.reduceNeg, Int.reduceEq, ↓reduceIte, reduceCtorEq, ↓reduceDIte]
  · simp -implicitDefEqProofs only [hm, hw, hw1, hw2, Int.reduceMul, Int.reduceAdd, Int.reduceSub, Int.reduceNeg, Int.natCast_zero, Int.cast_ofNat_Int, Int.toNat_natCast, List.replicate, copyIn, Int.reduceLT, Nat.min_def, Int.natCast_one, Nat.le_refl, Int.le_refl, Nat.zero_add, Nat.add_zero, Nat.sub_zero, Int.natCast_add, go_sem, Nat.reduceAdd, Nat.reduceSub, Nat.reduceMul, Nat.reduceMod, Nat.reduceLT, Nat.reduceLeDiff, Nat.reduceEqDiff, Nat.reduceBEq, Nat.reduceDiv, Int.reduceLT, Int.reduceLE, Int.reduceToNat, Int.reduceNeg, Int.reduceEq, ↓reduceIte, reduceCtorEq, ↓reduceDIte]
    erw [rep_4_1]
    simp -implicitDefEqProofs only [go_sem, Nat.reduceAdd, Nat.reduceSub, Nat.reduceMul, Nat.reduceMod, Nat.reduceLT, Nat.reduceLeDiff, Nat.reduceEqDiff, Nat.reduceBEq, Nat.reduceDiv, Int.reduceLT, Int.reduceLE, Int.reduceToNat, Int.reduceNeg, Int.reduceEq, ↓reduceIte, reduceCtorEq, ↓reduceDIte]
  · simp -implicitDefEqProofs only [hm, hw, hw1, hw2, Int.reduceMul, Int.reduceAdd, Int.reduceSub, Int.reduceNeg, Int.natCast_zero, Int.cast_ofNat_Int, Int.toNat_natCast, List.replicate, copyIn, Int.reduceLT, Nat.min_def, Int.natCast_one, Nat.le_refl, Int.le_refl, Nat.zero_add, Nat.add_zero, Nat.sub_zero, Int.natCast_add, go_sem, Nat.reduceAdd, Nat.reduceSub, Nat.reduceMul, Nat.reduceMod, Nat.reduceLT, Nat.reduceLeDiff, Nat.reduceEqDiff, Nat.reduceBEq, Nat.reduceDiv, Int.reduceLT, Int.reduceLE, Int.reduceToNat, Int.reduceNeg, Int.reduceEq, ↓reduceIte, reduceCtorEq, ↓reduceDIte]
    erw [rep_5_1]
    simp -implicitDefEqProofs only [go_sem, Nat.reduceAdd, Nat.reduceSub, Nat.reduceMul, Nat.reduceMod, Nat.reduceLT, Nat.reduceLeDiff, Nat.reduceEqDiff, Nat.reduceBEq, Nat.reduceDiv, Int.reduceLT, Int.reduceLE, Int.reduceToNat, Int.reduceNeg, Int.reduceEq, ↓reduceIte, reduceCtorEq, ↓reduceDIte]
  · simp -implicitDefEqProofs only [hm, hw, hw1, hw2, Int.reduceMul, Int.reduceAdd, Int.reduceSub, Int.reduceNeg, Int.natCast_zero, Int.cast_ofNat_Int, Int.toNat_natCast, List.replicate, copyIn, Int.reduceLT, Nat.min_def, Int.natCast_one, Nat.le_refl, Int.le_refl, Nat.zero_add, Nat.add_zero, Nat.sub_zero, Int.natCast_add, go_sem, Nat.reduceAdd, Nat.reduceSub, Nat.reduceMul, Nat.reduceMod, Nat.reduceLT, Nat.reduceLeDiff, Nat.reduceEqDiff, Nat.reduceBEq, Nat.reduceDiv, Int.reduceLT, Int.reduceLE, Int.reduceToNat, Int.reduceNeg, Int.reduceEq, ↓reduceIte, reduceCtorEq, ↓reduceDIte]
    erw [rep_6_1]
    simp -implicitDefEqProofs only [go_sem, Nat.reduceAdd, Nat.reduceSub, Nat.reduceMul, Nat.reduceMod, Nat.reduceLT, Nat.reduceLeDiff, Nat.reduceEqDiff, Nat.reduceBEq, Nat.reduceDiv, Int.reduceLT, Int.reduceLE, Int.reduceToNat, Int.reduceNeg, Int.reduceEq, ↓reduceIte, reduceCtorEq, ↓reduceDIte]
def emptyC (miss : List Int) : List Int := List.replicate miss.length (-1)
theorem call_iem (hit : List (List Int)) (miss : List Int) (h1 : 1 ≤ miss.length) (h6 : miss.length ≤ 6) : callOf pr 57 [.agg [LL hit, L miss]] [] = some (.os (.t 448), [(448, .arr true false (.int .i64) (emptyC miss))]) := by
  have h := call_rep (miss.length : Int) (by omega)
  have e : List.replicate ((miss.length : Int)).toNat (-1 : Int) = emptyC miss := by simp [emptyC]
  rw [e] at h
  rw [call_eq pr 57 _ _ Try.f57 fn_57 _ rfl _ ann_57 rfl]
  simp -implicitDefEqProofs only [go_sem, Nat.reduceAdd, Nat.reduceSub, Nat.reduceMul, Nat.reduceMod, Nat.reduceLT, Nat.reduceLeDiff, Nat.reduceEqDiff, Nat.reduceBEq, Nat.reduceDiv, Int.reduceLT, Int.reduceLE, Int.reduceToNat, Int.reduceNeg, Int.reduceEq, ↓reduceIte, reduceCtorEq, ↓reduceDIte]
  erw [h]
  simp -implicitDefEqProofs only [go_sem, Nat.reduceAdd, Nat.reduceSub, Nat.reduceMul, Nat.reduceMod, Nat.reduceLT, Nat.reduceLeDiff, Nat.reduceEqDiff, Nat.reduceBEq, Nat.reduceDiv, Int.reduceLT, Int.reduceLE, Int.reduceToNat, Int.reduceNeg, Int.reduceEq, ↓reduceIte, reduceCtorEq, ↓reduceDIte]
/-- A run: 1 for each hit and 0 for each miss, what has been replaced, the contents in the end. -/
def runC (hit : List (List Int)) (miss : List Int) : List Int → List Int → List Int × List Int × List Int
  | now, [] => ([], [], now)
  | now, a :: uses => ((if (stepC hit miss now a).2.2 = true then 1 else 0) :: (runC hit miss (stepC hit miss now a).1 uses).1, (stepC hit miss now a).2.1 :: (runC hit miss (stepC hit miss now a).1 uses).2.1, (runC hit miss (stepC hit miss now a).1 uses).2.2)
theorem runC_length (hit : List (List Int)) (miss : List Int) : ∀ (uses now : List Int), (runC hit miss now uses).1.length = uses.length ∧ (runC hit miss now uses).2.1.length = uses.length
  | [], now => ⟨rfl, rfl⟩
  | a :: uses, now => by
    have := runC_length hit miss uses (stepC hit miss now a).1
    simp [runC, this.1, this.2]
theorem irun2 (hit : List (List Int)) (miss : List Int) (hv : validP hit miss = true) (n : Nat) : ∀ (suf pre now hs rs : List Int), now.length = miss.length → n < 1000000 → pre.length + suf.length = n → hs.length = pre.length → rs.length = pre.length →
    loopOf pr 47 0 ⟨[(2, .op 128 0), (7, .os (.t 1920)), (8, .os (.t 1152)), (9, .os (.t 1216)), (20, L (pre ++ suf)), (21, I n), (22, I pre.length)], [(128, .box [LL hit, L miss]), (1152, .arr true false (.int .i64) hs), (1216, .arr true false (.int .i64) rs), (1920, .arr true false (.int .i64) now)]⟩ = some (.exit 0, ⟨[(2, .op 128 0), (7, .os (.t 1920)), (8, .os (.t 1152)), (9, .os (.t 1216)), (20, L (pre ++ suf)), (21, I n), (22, I n)], [(128, .box [LL hit, L miss]), (1152, .arr true false (.int .i64) (hs ++ (runC hit miss now suf).1)), (1216, .arr true false (.int .i64) (rs ++ (runC hit miss now suf).2.1)), (1920, .arr true false (.int .i64) (runC hit miss now suf).2.2)]⟩)
  | [], pre, now, hs, rs, hn, hb, hl, hh, hr => by
    have : n = pre.length := by simp at hl; exact hl.symm
    subst this
    rw [loop_eq pr 47 0 _ Try.f47 fn_47 _ rfl _ ann_47 _ rfl]
    simp -implicitDefEqProofs only [Int.lt_irrefl, List.append_nil, Nat.add_zero, runC, go_sem, Nat.reduceAdd, Nat.reduceSub, Nat.reduceMul, Nat.reduceMod, Nat.reduceLT, Nat.reduceLeDiff, Nat.reduceEqDiff, Nat.reduceBEq, Nat.reduceDiv, Int.reduceLT, Int.reduceLE, Int.reduceToNat, Int.reduceNeg, Int.reduceEq, ↓reduceIte, reduceCtorEq, ↓reduceDIte]
  | a :: suf, pre, now, hs, rs, hn, hb, hl, hh, hr => by
    simp only [List.length_cons] at hl
    have hw : IntKind.i64.wrap ((pre.length : Int) + 1) = ((pre.length + 1 : Nat) : Int) := by rw [wrap_i] <;> omega
    have hlt : ((pre.length : Int) < (n : Int)) = True := tr (by omega)
    have hs1 := call_ist hit miss now a hv hn
    have hroom : ((hs.length + 1) * 8 ≤ 140737488355328 ∧ hs.length ≤ 9223372036854775806) = True := tr (by omega)
    have hroom2 : ((rs.length + 1) * 8 ≤ 140737488355328 ∧ rs.length ≤ 9223372036854775806) = True := tr (by omega)
    have ih := irun2 hit miss hv n suf (pre ++ [a]) (stepC hit miss now a).1 (hs ++ [if (stepC hit miss now a).2.2 = true then 1 else 0]) (rs ++ [(stepC hit miss now a).2.1]) (stepC_length a hv hn) hb (by simp; omega) (by simp [hh]) (by simp [hr])
    have e1 : (pre ++ [a]).length = pre.length + 1 := by simp
    rw [app_one, app_one, app_one, e1] at ih
    rw [loop_eq pr 47 0 _ Try.f47 fn_47 _ rfl _ ann_47 _ rfl]
    cases hq : ageOf a now with
    | some i =>
      have hq1 : stepC hit miss now a = (perm now (hit.getD i []), -1, true) := by simp only [stepC, hq]
      rw [hq] at hs1
      simp only at hs1
      rw [hq1] at ih
      simp only [if_true] at ih
      simp -implicitDefEqProofs only [hlt, getD_app, lt_app, ltn_app, zero_le_cast, Int.toNat_natCast, hs1, hw, hroom, hroom2, runC, hq1, go_sem, Nat.reduceAdd, Nat.reduceSub, Nat.reduceMul, Nat.reduceMod, Nat.reduceLT, Nat.reduceLeDiff, Nat.reduceEqDiff, Nat.reduceBEq, Nat.reduceDiv, Int.reduceLT, Int.reduceLE, Int.reduceToNat, Int.reduceNeg, Int.reduceEq, ↓reduceIte, reduceCtorEq, ↓reduceDIte]
      exact ih
    | none =>
      have hq1 : stepC hit miss now a = (perm (now.set (now.length - 1) a) miss, now.getD (now.length - 1) 0, false) := by simp only [stepC, hq]
      rw [hq] at hs1
      simp only at hs1
      rw [hq1] at ih
      simp only [Bool.false_eq_true, if_false] at ih
      simp -implicitDefEqProofs only [hlt, getD_app, lt_app, ltn_app, zero_le_cast, Int.toNat_natCast, hs1, hw, hroom, hroom2, runC, hq1, go_sem, Nat.reduceAdd, Nat.reduceSub, Nat.reduceMul, Nat.reduceMod, Nat.reduceLT, Nat.reduceLeDiff, Nat.reduceEqDiff, Nat.reduceBEq, Nat.reduceDiv, Int.reduceLT, Int.reduceLE, Int.reduceToNat, Int.reduceNeg, Int.reduceEq, ↓reduceIte, reduceCtorEq, ↓reduceDIte]
      exact ih
theorem irun1 (hit : List (List Int)) (miss : List Int) (hv : validP hit miss = true) (n : Nat) : ∀ (suf pre now hs rs : List Int), now.length = miss.length → n < 1000000 → pre.length + suf.length = n → hs.length = pre.length → rs.length = pre.length → suf ≠ [] →
    loopOf pr 47 0 ⟨[(2, .op 128 0), (7, .os (.t 1088)), (8, .os (.t 1152)), (9, .os (.t 1216)), (20, L (pre ++ suf)), (21, I n), (22, I pre.length)], [(128, .box [LL hit, L miss]), (1088, .arr true false (.int .i64) now), (1152, .arr true false (.int .i64) hs), (1216, .arr true false (.int .i64) rs)]⟩ = some (.exit 0, ⟨[(2, .op 128 0), (7, .os (.t 1920)), (8, .os (.t 1152)), (9, .os (.t 1216)), (20, L (pre ++ suf)), (21, I n), (22, I n)], [(128, .box [LL hit, L miss]), (1152, .arr true false (.int .i64) (hs ++ (runC hit miss now suf).1)), (1216, .arr true false (.int .i64) (rs ++ (runC hit miss now suf).2.1)), (1920, .arr true false (.int .i64) (runC hit miss now suf).2.2)]⟩)
  | [], pre, now, hs, rs, hn, hb, hl, hh, hr, hne => absurd rfl hne
  | a :: suf, pre, now, hs, rs, hn, hb, hl, hh, hr, hne => by
    simp only [List.length_cons] at hl
    have hw : IntKind.i64.wrap ((pre.length : Int) + 1) = ((pre.length + 1 : Nat) : Int) := by rw [wrap_i] <;> omega
    have hlt : ((pre.length : Int) < (n : Int)) = True := tr (by omega)
    have hs1 := call_ist hit miss now a hv hn
    have hroom : ((hs.length + 1) * 8 ≤ 140737488355328 ∧ hs.length ≤ 9223372036854775806) = True := tr (by omega)
    have hroom2 : ((rs.length + 1) * 8 ≤ 140737488355328 ∧ rs.length ≤ 9223372036854775806) = True := tr (by omega)
    have ih := irun2 hit miss hv n suf (pre ++ [a]) (stepC hit miss now a).1 (hs ++ [if (stepC hit miss now a).2.2 = true then 1 else 0]) (rs ++ [(stepC hit miss now a).2.1]) (stepC_length a hv hn) hb (by simp; omega) (by simp [hh]) (by simp [hr])
    have e1 : (pre ++ [a]).length = pre.length + 1 := by simp
    rw [app_one, app_one, app_one, e1] at ih
    rw [loop_eq pr 47 0 _ Try.f47 fn_47 _ rfl _ ann_47 _ rfl]
    cases hq : ageOf a now with
    | some i =>
      have hq1 : stepC hit miss now a = (perm now (hit.getD i []), -1, true) := by simp only [stepC, hq]
      rw [hq] at hs1
      simp only at hs1
      rw [hq1] at ih
      simp only [if_true] at ih
      simp -implicitDefEqProofs only [hlt, getD_app, lt_app, ltn_app, zero_le_cast, Int.toNat_natCast, hs1, hw, hroom, hroom2, runC, hq1, go_sem, Nat.reduceAdd, Nat.reduceSub, Nat.reduceMul, Nat.reduceMod, Nat.reduceLT, Nat.reduceLeDiff, Nat.reduceEqDiff, Nat.reduceBEq, Nat.reduceDiv, Int.reduceLT, Int.reduceLE, Int.reduceToNat, Int.reduceNeg, Int.reduceEq, ↓reduceIte, reduceCtorEq, ↓reduceDIte]
      exact ih
    | none =>
      have hq1 : stepC hit miss now a = (perm (now.set (now.length - 1) a) miss, now.getD (now.length - 1) 0, false) := by simp only [stepC, hq]
      rw [hq] at hs1
      simp only at hs1
      rw [hq1] at ih
      simp only [Bool.false_eq_true, if_false] at ih
      simp -implicitDefEqProofs only [hlt, getD_app, lt_app, ltn_app, zero_le_cast, Int.toNat_natCast, hs1, hw, hroom, hroom2, runC, hq1, go_sem, Nat.reduceAdd, Nat.reduceSub, Nat.reduceMul, Nat.reduceMod, Nat.reduceLT, Nat.reduceLeDiff, Nat.reduceEqDiff, Nat.reduceBEq, Nat.reduceDiv, Int.reduceLT, Int.reduceLE, Int.reduceToNat, Int.reduceNeg, Int.reduceEq, ↓reduceIte, reduceCtorEq, ↓reduceDIte]
      exact ih
theorem call_irun (hit : List (List Int)) (miss : List Int) (hv : validP hit miss = true) (uses : List Int) (hb : uses.length < 1000000) : ∃ c, (c = 1088 ∨ c = 1920) ∧ callOf pr 47 [.agg [LL hit, L miss], L uses] [] = some (.tuple [.os (.t 1152), .os (.t 1216), .os (.t c)],
    if c = 1088 then [(c, .arr true false (.int .i64) (runC hit miss (emptyC miss) uses).2.2), (1152, .arr true false (.int .i64) (runC hit miss (emptyC miss) uses).1), (1216, .arr true false (.int .i64) (runC hit miss (emptyC miss) uses).2.1)]
    else [(1152, .arr true false (.int .i64) (runC hit miss (emptyC miss) uses).1), (1216, .arr true false (.int .i64) (runC hit miss (emptyC miss) uses).2.1), (c, .arr true false (.int .i64) (runC hit miss (emptyC miss) uses).2.2)]) := by
  obtain ⟨v1, v2, v3, v4, v5⟩ := validP_bound hv
  have h1 := call_iem hit miss v1 v2
  by_cases hu : uses = []
  · subst hu
    refine ⟨1088, .inl rfl, ?_⟩
    have h : loopOf pr 47 0 ⟨[(2, .op 128 0), (7, .os (.t 1088)), (8, .os (.t 1152)), (9, .os (.t 1216)), (20, L []), (21, I 0), (22, I 0)], [(128, .box [LL hit, L miss]), (1088, .arr true false (.int .i64) (emptyC miss)), (1152, .arr true false (.int .i64) ([] : List Int)), (1216, .arr true false (.int .i64) ([] : List Int))]⟩ = some (.exit 0, ⟨[(2, .op 128 0), (7, .os (.t 1088)), (8, .os (.t 1152)), (9, .os (.t 1216)), (20, L []), (21, I 0), (22, I 0)], [(128, .box [LL hit, L miss]), (1088, .arr true false (.int .i64) (emptyC miss)), (1152, .arr true false (.int .i64) ([] : List Int)), (1216, .arr true false (.int .i64) ([] : List Int))]⟩) := by
      rw [loop_eq pr 47 0 _ Try.f47 fn_47 _ rfl _ ann_47 _ rfl]
      simp -implicitDefEqProofs only [Int.lt_irrefl, go_sem, Nat.reduceAdd, Nat.reduceSub, Nat.reduceMul, Nat.reduceMod, Nat.reduceLT, Nat.reduceLeDiff, Nat.reduceEqDiff, Nat.reduceBEq, Nat.reduceDiv, Int.reduceLT, Int.reduceLE, Int.reduceToNat, Int.reduceNeg, Int.reduceEq, ↓reduceIte, reduceCtorEq, ↓reduceDIte]
    rw [call_eq pr 47 _ _ Try.f47 fn_47 _ rfl _ ann_47 rfl]
    simp -implicitDefEqProofs only [h1, Int.natCast_zero, h, runC, go_sem, Nat.reduceAdd, Nat.reduceSub, Nat.reduceMul, Nat.reduceMod, Nat.reduceLT, Nat.reduceLeDiff, Nat.reduceEqDiff, Nat.reduceBEq, Nat.reduceDiv, Int.reduceLT, Int.reduceLE, Int.reduceToNat, Int.reduceNeg, Int.reduceEq, ↓reduceIte, reduceCtorEq, ↓reduceDIte]
  · refine ⟨1920, .inr rfl, ?_⟩
    have h := irun1 hit miss hv uses.length uses [] (emptyC miss) [] [] (by simp [emptyC]) hb (by simp) rfl rfl hu
    simp only [List.nil_append, List.length_nil] at h
    have h : loopOf pr 47 0 ⟨[(2, .op 128 0), (7, .os (.t 1088)), (8, .os (.t 1152)), (9, .os (.t 1216)), (20, L uses), (21, I uses.length), (22, I 0)], [(128, .box [LL hit, L miss]), (1088, .arr true false (.int .i64) (emptyC miss)), (1152, .arr true false (.int .i64) []), (1216, .arr true false (.int .i64) [])]⟩ = _ := h
    rw [call_eq pr 47 _ _ Try.f47 fn_47 _ rfl _ ann_47 rfl]
    simp -implicitDefEqProofs only [h1, h, go_sem, Nat.reduceAdd, Nat.reduceSub, Nat.reduceMul, Nat.reduceMod, Nat.reduceLT, Nat.reduceLeDiff, Nat.reduceEqDiff, Nat.reduceBEq, Nat.reduceDiv, Int.reduceLT, Int.reduceLE, Int.reduceToNat, Int.reduceNeg, Int.reduceEq, ↓reduceIte, reduceCtorEq, ↓reduceDIte]
end Go.Proofs.Ytjcldkfgpifebaa.PI
