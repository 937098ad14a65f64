/- Runs of policies. -/
import Derived.Test.YtfooniikopekoaaP5
namespace Go.Proofs.Ytfooniikopekoaa.PI
open Go Go.Q
set_option maxRecDepth 100000
set_option maxHeartbeats 4000000
set_option linter.unusedSimpArgs false
set_option linter.unusedVariables false
def emptyC (miss : List Int) : List Int := List.replicate miss.length (-1)
theorem call_iem (hit : List (List Int)) (miss : List Int) (h1 : 1 ≤ miss.length) (h6 : miss.length ≤ 6) : callOf pr 70 [.agg [LL hit, L miss]] [] = some (.os (.t 448), [(448, .arr true false (.int .i64) (emptyC miss))]) := by
  have h := call_rep (miss.length : Int) (by omega)
  have e : List.replicate ((miss.length : Int)).toNat (-1 : Int) = emptyC miss := by simp [emptyC]
  rw [e] at h
  rw [call_eq pr 70 _ _ Try.f70 fn_70 _ rfl _ ann_70 rfl]
  simp -implicitDefEqProofs only [go_sem, Nat.reduceAdd, Nat.reduceSub, Nat.reduceMul, Nat.reduceMod, Nat.reduceLT, Nat.reduceLeDiff, Nat.reduceEqDiff, Nat.reduceBEq, Nat.reduceDiv, Int.reduceLT, Int.reduceLE, Int.reduceToNat, Int.reduceNeg, Int.reduceEq, ↓reduceIte, reduceCtorEq, ↓reduceDIte]
  erw [h]
  simp -implicitDefEqProofs only [go_sem, Nat.reduceAdd, Nat.reduceSub, Nat.reduceMul, Nat.reduceMod, Nat.reduceLT, Nat.reduceLeDiff, Nat.reduceEqDiff, Nat.reduceBEq, Nat.reduceDiv, Int.reduceLT, Int.reduceLE, Int.reduceToNat, Int.reduceNeg, Int.reduceEq, ↓reduceIte, reduceCtorEq, ↓reduceDIte]
/-- A run: 1 for each hit and 0 for each miss, what has been replaced, the contents in the end. -/
def runC (hit : List (List Int)) (miss : List Int) : List Int → List Int → List Int × List Int × List Int
  | now, [] => ([], [], now)
  | now, a :: uses => ((if (stepC hit miss now a).2.2 = true then 1 else 0) :: (runC hit miss (stepC hit miss now a).1 uses).1, (stepC hit miss now a).2.1 :: (runC hit miss (stepC hit miss now a).1 uses).2.1, (runC hit miss (stepC hit miss now a).1 uses).2.2)
theorem runC_length (hit : List (List Int)) (miss : List Int) : ∀ (uses now : List Int), (runC hit miss now uses).1.length = uses.length ∧ (runC hit miss now uses).2.1.length = uses.length
  | [], now => ⟨rfl, rfl⟩
  | a :: uses, now => by
    have := runC_length hit miss uses (stepC hit miss now a).1
    simp [runC, this.1, this.2]
theorem runC_final {hit : List (List Int)} {miss : List Int} (hv : validP hit miss = true) : ∀ (uses now : List Int), now.length = miss.length → (runC hit miss now uses).2.2.length = miss.length
  | [], now, h => h
  | a :: uses, now, h => by
    simp only [runC]
    exact runC_final hv uses _ (stepC_length a hv h)
theorem irun2 (hit : List (List Int)) (miss : List Int) (hv : validP hit miss = true) (n : Nat) : ∀ (suf pre now hs rs : List Int), now.length = miss.length → n < 1000000 → pre.length + suf.length = n → hs.length = pre.length → rs.length = pre.length →
    loopOf pr 57 0 ⟨[(2, .op 128 0), (7, .os (.t 1920)), (8, .os (.t 1152)), (9, .os (.t 1216)), (20, L (pre ++ suf)), (21, I n), (22, I pre.length)], [(128, .box [LL hit, L miss]), (1152, .arr true false (.int .i64) hs), (1216, .arr true false (.int .i64) rs), (1920, .arr true false (.int .i64) now)]⟩ = some (.exit 0, ⟨[(2, .op 128 0), (7, .os (.t 1920)), (8, .os (.t 1152)), (9, .os (.t 1216)), (20, L (pre ++ suf)), (21, I n), (22, I n)], [(128, .box [LL hit, L miss]), (1152, .arr true false (.int .i64) (hs ++ (runC hit miss now suf).1)), (1216, .arr true false (.int .i64) (rs ++ (runC hit miss now suf).2.1)), (1920, .arr true false (.int .i64) (runC hit miss now suf).2.2)]⟩)
  | [], pre, now, hs, rs, hn, hb, hl, hh, hr => by
    have : n = pre.length := by simp at hl; exact hl.symm
    subst this
    rw [loop_eq pr 57 0 _ Try.f57 fn_57 _ rfl _ ann_57 _ rfl]
    simp -implicitDefEqProofs only [Int.lt_irrefl, List.append_nil, Nat.add_zero, runC, go_sem, Nat.reduceAdd, Nat.reduceSub, Nat.reduceMul, Nat.reduceMod, Nat.reduceLT, Nat.reduceLeDiff, Nat.reduceEqDiff, Nat.reduceBEq, Nat.reduceDiv, Int.reduceLT, Int.reduceLE, Int.reduceToNat, Int.reduceNeg, Int.reduceEq, ↓reduceIte, reduceCtorEq, ↓reduceDIte]
  | a :: suf, pre, now, hs, rs, hn, hb, hl, hh, hr => by
    simp only [List.length_cons] at hl
    have hw : IntKind.i64.wrap ((pre.length : Int) + 1) = ((pre.length + 1 : Nat) : Int) := by rw [wrap_i] <;> omega
    have hlt : ((pre.length : Int) < (n : Int)) = True := tr (by omega)
    have hs1 := call_ist hit miss now a hv hn
    have hroom : ((hs.length + 1) * 8 ≤ 140737488355328 ∧ hs.length ≤ 9223372036854775806) = True := tr (by omega)
    have hroom2 : ((rs.length + 1) * 8 ≤ 140737488355328 ∧ rs.length ≤ 9223372036854775806) = True := tr (by omega)
    have ih := irun2 hit miss hv n suf (pre ++ [a]) (stepC hit miss now a).1 (hs ++ [if (stepC hit miss now a).2.2 = true then 1 else 0]) (rs ++ [(stepC hit miss now a).2.1]) (stepC_length a hv hn) hb (by simp; omega) (by simp [hh]) (by simp [hr])
    have e1 : (pre ++ [a]).length = pre.length + 1 := by simp
    rw [app_one, app_one, app_one, e1] at ih
    rw [loop_eq pr 57 0 _ Try.f57 fn_57 _ rfl _ ann_57 _ rfl]
    cases hq : ageOf a now with
    | some i =>
      have hq1 : stepC hit miss now a = (perm now (hit.getD i []), -1, true) := by simp only [stepC, hq]
      rw [hq] at hs1
      simp only at hs1
      rw [hq1] at ih
      simp only [if_true] at ih
      simp -implicitDefEqProofs only [hlt, getD_app, lt_app, ltn_app, zero_le_cast, Int.toNat_natCast, hs1, hw, hroom, hroom2, runC, hq1, go_sem, Nat.reduceAdd, Nat.reduceSub, Nat.reduceMul, Nat.reduceMod, Nat.reduceLT, Nat.reduceLeDiff, Nat.reduceEqDiff, Nat.reduceBEq, Nat.reduceDiv, Int.reduceLT, Int.reduceLE, Int.reduceToNat, Int.reduceNeg, Int.reduceEq, ↓reduceIte, reduceCtorEq, ↓reduceDIte]
      exact ih
    | none =>
      have hq1 : stepC hit miss now a = (perm (now.set (now.length - 1) a) miss, now.getD (now.length - 1) 0, false) := by simp only [stepC, hq]
      rw [hq] at hs1
      simp only at hs1
      rw [hq1] at ih
      simp only [Bool.false_eq_true, if_false] at ih
      simp -implicitDefEqProofs only [hlt, getD_app, lt_app, ltn_app, zero_le_cast, Int.toNat_natCast, hs1, hw, hroom, hroom2, runC, hq1, go_sem, Nat.reduceAdd, Nat.reduceSub, Nat.reduceMul, Nat.reduceMod, Nat.reduceLT, Nat.reduceLeDiff, Nat.reduceEqDiff, Nat.reduceBEq, Nat.reduceDiv, Int.reduceLT, Int.reduceLE, Int.reduceToNat, Int.reduceNeg, Int.reduceEq, ↓reduceIte, reduceCtorEq, ↓reduceDIte]
      exact ih
theorem irun1 (hit : List (List Int)) (miss : List Int) (hv : validP hit miss = true) (n : Nat) : ∀ (suf pre now hs rs : List Int), now.length = miss.length → n < 1000000 → pre.length + suf.length = n → hs.length = pre.length → rs.length = pre.length → suf ≠ [] →
    loopOf pr 57 0 ⟨[(2, .op 128 0), (7, .os (.t 1088)), (8, .os (.t 1152)), (9, .os (.t 1216)), (20, L (pre ++ suf)), (21, I n), (22, I pre.length)], [(128, .box [LL hit, L miss]), (1088, .arr true false (.int .i64) now), (1152, .arr true false (.int .i64) hs), (1216, .arr true false (.int .i64) rs)]⟩ = some (.exit 0, ⟨[(2, .op 128 0), (7, .os (.t 1920)), (8, .os (.t 1152)), (9, .os (.t 1216)), (20, L (pre ++ suf)), (21, I n), (22, I n)], [(128, .box [LL hit, L miss]), (1152, .arr true false (.int .i64) (hs ++ (runC hit miss now suf).1)), (1216, .arr true false (.int .i64) (rs ++ (runC hit miss now suf).2.1)), (1920, .arr true false (.int .i64) (runC hit miss now suf).2.2)]⟩)
  | [], pre, now, hs, rs, hn, hb, hl, hh, hr, hne => absurd rfl hne
  | a :: suf, pre, now, hs, rs, hn, hb, hl, hh, hr, hne => by
    simp only [List.length_cons] at hl
    have hw : IntKind.i64.wrap ((pre.length : Int) + 1) = ((pre.length + 1 : Nat) : Int) := by rw [wrap_i] <;> omega
    have hlt : ((pre.length : Int) < (n : Int)) = True := tr (by omega)
    have hs1 := call_ist hit miss now a hv hn
    have hroom : ((hs.length + 1) * 8 ≤ 140737488355328 ∧ hs.length ≤ 9223372036854775806) = True := tr (by omega)
    have hroom2 : ((rs.length + 1) * 8 ≤ 140737488355328 ∧ rs.length ≤ 9223372036854775806) = True := tr (by omega)
    have ih := irun2 hit miss hv n suf (pre ++ [a]) (stepC hit miss now a).1 (hs ++ [if (stepC hit miss now a).2.2 = true then 1 else 0]) (rs ++ [(stepC hit miss now a).2.1]) (stepC_length a hv hn) hb (by simp; omega) (by simp [hh]) (by simp [hr])
    have e1 : (pre ++ [a]).length = pre.length + 1 := by simp
    rw [app_one, app_one, app_one, e1] at ih
    rw [loop_eq pr 57 0 _ Try.f57 fn_57 _ rfl _ ann_57 _ rfl]
    cases hq : ageOf a now with
    | some i =>
      have hq1 : stepC hit miss now a = (perm now (hit.getD i []), -1, true) := by simp only [stepC, hq]
      rw [hq] at hs1
      simp only at hs1
      rw [hq1] at ih
      simp only [if_true] at ih
      simp -implicitDefEqProofs only [hlt, getD_app, lt_app, ltn_app, zero_le_cast, Int.toNat_natCast, hs1, hw, hroom, hroom2, runC, hq1, go_sem, Nat.reduceAdd, Nat.reduceSub, Nat.reduceMul, Nat.reduceMod, Nat.reduceLT, Nat.reduceLeDiff, Nat.reduceEqDiff, Nat.reduceBEq, Nat.reduceDiv, Int.reduceLT, Int.reduceLE, Int.reduceToNat, Int.reduceNeg, Int.reduceEq, ↓reduceIte, reduceCtorEq, ↓reduceDIte]
      exact ih
    | none =>
      have hq1 : stepC hit miss now a = (perm (now.set (now.length - 1) a) miss, now.getD (now.length - 1) 0, false) := by simp only [stepC, hq]
      rw [hq] at hs1
      simp only at hs1
      rw [hq1] at ih
      simp only [Bool.false_eq_true, if_false] at ih
      simp -implicitDefEqProofs only [hlt, getD_app, lt_app, ltn_app, zero_le_cast, Int.toNat_natCast, hs1, hw, hroom, hroom2, runC, hq1, go_sem, Nat.reduceAdd, Nat.reduceSub, Nat.reduceMul, Nat.reduceMod, Nat.reduceLT, Nat.reduceLeDiff, Nat.reduceEqDiff, Nat.reduceBEq, Nat.reduceDiv, Int.reduceLT, Int.reduceLE, Int.reduceToNat, Int.reduceNeg, Int.reduceEq, ↓reduceIte, reduceCtorEq, ↓reduceDIte]
      exact ih
theorem call_irun (hit : List (List Int)) (miss : List Int) (hv : validP hit miss = true) (uses : List Int) (hb : uses.length < 1000000) : ∃ c, (c = 1088 ∨ c = 1920) ∧ callOf pr 57 [.agg [LL hit, L miss], L uses] [] = some (.tuple [.os (.t 1152), .os (.t 1216), .os (.t c)],
    if c = 1088 then [(c, .arr true false (.int .i64) (runC hit miss (emptyC miss) uses).2.2), (1152, .arr true false (.int .i64) (runC hit miss (emptyC miss) uses).1), (1216, .arr true false (.int .i64) (runC hit miss (emptyC miss) uses).2.1)]
    else [(1152, .arr true false (.int .i64) (runC hit miss (emptyC miss) uses).1), (1216, .arr true false (.int .i64) (runC hit miss (emptyC miss) uses).2.1), (c, .arr true false (.int .i64) (runC hit miss (emptyC miss) uses).2.2)]) := by
  obtain ⟨v1, v2, v3, v4, v5⟩ := validP_bound hv
  have h1 := call_iem hit miss v1 v2
  by_cases hu : uses = []
  · subst hu
    refine ⟨1088, .inl rfl, ?_⟩
    have h : loopOf pr 57 0 ⟨[(2, .op 128 0), (7, .os (.t 1088)), (8, .os (.t 1152)), (9, .os (.t 1216)), (20, L []), (21, I 0), (22, I 0)], [(128, .box [LL hit, L miss]), (1088, .arr true false (.int .i64) (emptyC miss)), (1152, .arr true false (.int .i64) ([] : List Int)), (1216, .arr true false (.int .i64) ([] : List Int))]⟩ = some (.exit 0, ⟨[(2, .op 128 0), (7, .os (.t 1088)), (8, .os (.t 1152)), (9, .os (.t 1216)), (20, L []), (21, I 0), (22, I 0)], [(128, .box [LL hit, L miss]), (1088, .arr true false (.int .i64) (emptyC miss)), (1152, .arr true false (.int .i64) ([] : List Int)), (1216, .arr true false (.int .i64) ([] : List Int))]⟩) := by
      rw [loop_eq pr 57 0 _ Try.f57 fn_57 _ rfl _ ann_57 _ rfl]
      simp -implicitDefEqProofs only [Int.lt_irrefl, go_sem, Nat.reduceAdd, Nat.reduceSub, Nat.reduceMul, Nat.reduceMod, Nat.reduceLT, Nat.reduceLeDiff, Nat.reduceEqDiff, Nat.reduceBEq, Nat.reduceDiv, Int.reduceLT, Int.reduceLE, Int.reduceToNat, Int.reduceNeg, Int.reduceEq, ↓reduceIte, reduceCtorEq, ↓reduceDIte]
    rw [call_eq pr 57 _ _ Try.f57 fn_57 _ rfl _ ann_57 rfl]
    simp -implicitDefEqProofs only [h1, Int.natCast_zero, h, runC, go_sem, Nat.reduceAdd, Nat.reduceSub, Nat.reduceMul, Nat.reduceMod, Nat.reduceLT, Nat.reduceLeDiff, Nat.reduceEqDiff, Nat.reduceBEq, Nat.reduceDiv, Int.reduceLT, Int.reduceLE, Int.reduceToNat, Int.reduceNeg, Int.reduceEq, ↓reduceIte, reduceCtorEq, ↓reduceDIte]
  · refine ⟨1920, .inr rfl, ?_⟩
    have h := irun1 hit miss hv uses.length uses [] (emptyC miss) [] [] (by simp [emptyC]) hb (by simp) rfl rfl hu
    simp only [List.nil_append, List.length_nil] at h
    have h : loopOf pr 57 0 ⟨[(2, .op 128 0), (7, .os (.t 1088)), (8, .os (.t 1152)), (9, .os (.t 1216)), (20, L uses), (21, I uses.length), (22, I 0)], [(128, .box [LL hit, L miss]), (1088, .arr true false (.int .i64) (emptyC miss)), (1152, .arr true false (.int .i64) []), (1216, .arr true false (.int .i64) [])]⟩ = _ := h
    rw [call_eq pr 57 _ _ Try.f57 fn_57 _ rfl _ ann_57 rfl]
    simp -implicitDefEqProofs only [h1, h, go_sem, Nat.reduceAdd, Nat.reduceSub, Nat.reduceMul, Nat.reduceMod, Nat.reduceLT, Nat.reduceLeDiff, Nat.reduceEqDiff, Nat.reduceBEq, Nat.reduceDiv, Int.reduceLT, Int.reduceLE, Int.reduceToNat, Int.reduceNeg, Int.reduceEq, ↓reduceIte, reduceCtorEq, ↓reduceDIte]
def bits01 (l : List Int) : Prop := ∀ x ∈ l, x = 0 ∨ x = 1
theorem sum01 : ∀ (l : List Int), bits01 l → 0 ≤ l.sum ∧ l.sum ≤ l.length
  | [], h => by simp
  | x :: l, h => by
    have h1 := sum01 l (fun y hy => h y (List.mem_cons_of_mem _ hy))
    have h2 := h x (List.mem_cons_self ..)
    simp only [List.sum_cons, List.length_cons]
    omega
theorem runC_bits (hit : List (List Int)) (miss : List Int) : ∀ (uses now : List Int), bits01 (runC hit miss now uses).1
  | [], now, x, hx => by simp [runC] at hx
  | a :: uses, now, x, hx => by
    simp only [runC, List.mem_cons] at hx
    rcases hx with hx | hx
    · split at hx <;> simp [hx]
    · exact runC_bits hit miss uses _ x hx
def missN (hs : List Int) : Int := hs.length - hs.sum
theorem loop_imi (i : Nat) (hi : i = 896 ∨ i = 897) (n : Nat) (hb : n < 1000000) : ∀ (suf pre : List Int), bits01 (pre ++ suf) → pre.length + suf.length = n →
    loopOf pr 53 0 ⟨[(8, I ((pre.length : Int) - pre.sum)), (18, .os (.t i)), (19, I n), (20, I pre.length)], [(i, .arr true false (.int .i64) (pre ++ suf))]⟩ = some (.exit 0, ⟨[(8, I ((n : Int) - (pre ++ suf).sum)), (18, .os (.t i)), (19, I n), (20, I n)], [(i, .arr true false (.int .i64) (pre ++ suf))]⟩)
  | [], pre, h, hl => by
    have : n = pre.length := by simp at hl; exact hl.symm
    subst this
    rw [loop_eq pr 53 0 _ Try.f53 fn_53 _ rfl _ ann_53 _ rfl]
    rcases hi with rfl | rfl
    · simp -implicitDefEqProofs only [Int.lt_irrefl, List.append_nil, Nat.add_zero, go_sem, Nat.reduceAdd, Nat.reduceSub, Nat.reduceMul, Nat.reduceMod, Nat.reduceLT, Nat.reduceLeDiff, Nat.reduceEqDiff, Nat.reduceBEq, Nat.reduceDiv, Int.reduceLT, Int.reduceLE, Int.reduceToNat, Int.reduceNeg, Int.reduceEq, ↓reduceIte, reduceCtorEq, ↓reduceDIte]
    · simp -implicitDefEqProofs only [Int.lt_irrefl, List.append_nil, Nat.add_zero, go_sem, Nat.reduceAdd, Nat.reduceSub, Nat.reduceMul, Nat.reduceMod, Nat.reduceLT, Nat.reduceLeDiff, Nat.reduceEqDiff, Nat.reduceBEq, Nat.reduceDiv, Int.reduceLT, Int.reduceLE, Int.reduceToNat, Int.reduceNeg, Int.reduceEq, ↓reduceIte, reduceCtorEq, ↓reduceDIte]
  | x :: suf, pre, h, hl => by
    simp only [List.length_cons] at hl
    have hx := h x (by simp)
    have hp := sum01 pre (fun y hy => h y (by simp [hy]))
    have hlt : ((pre.length : Int) < (n : Int)) = True := tr (by omega)
    have hw : IntKind.i64.wrap ((pre.length : Int) + 1) = ((pre.length + 1 : Nat) : Int) := by rw [wrap_i] <;> omega
    have hw1 : IntKind.i64.wrap (1 - x) = 1 - x := by rw [wrap_i] <;> omega
    have hw2 : IntKind.i64.wrap ((pre.length : Int) - pre.sum + (1 - x)) = ((pre.length + 1 : Nat) : Int) - (pre ++ [x]).sum := by
      have e : (pre ++ [x]).sum = pre.sum + x := by simp
      rw [e, wrap_i] <;> omega
    have ih := loop_imi i hi n hb suf (pre ++ [x]) (by rw [app_one]; exact h) (by simp; omega)
    have e1 : (pre ++ [x]).length = pre.length + 1 := by simp
    rw [app_one, e1] at ih
    rw [loop_eq pr 53 0 _ Try.f53 fn_53 _ rfl _ ann_53 _ rfl]
    rcases hi with rfl | rfl
    · simp -implicitDefEqProofs only [hlt, getD_app, lt_app, ltn_app, zero_le_cast, Int.toNat_natCast, hw, hw1, hw2, go_sem, Nat.reduceAdd, Nat.reduceSub, Nat.reduceMul, Nat.reduceMod, Nat.reduceLT, Nat.reduceLeDiff, Nat.reduceEqDiff, Nat.reduceBEq, Nat.reduceDiv, Int.reduceLT, Int.reduceLE, Int.reduceToNat, Int.reduceNeg, Int.reduceEq, ↓reduceIte, reduceCtorEq, ↓reduceDIte]
      exact ih
    · simp -implicitDefEqProofs only [hlt, getD_app, lt_app, ltn_app, zero_le_cast, Int.toNat_natCast, hw, hw1, hw2, go_sem, Nat.reduceAdd, Nat.reduceSub, Nat.reduceMul, Nat.reduceMod, Nat.reduceLT, Nat.reduceLeDiff, Nat.reduceEqDiff, Nat.reduceBEq, Nat.reduceDiv, Int.reduceLT, Int.reduceLE, Int.reduceToNat, Int.reduceNeg, Int.reduceEq, ↓reduceIte, reduceCtorEq, ↓reduceDIte]
      exact ih
theorem call_imi (hit : List (List Int)) (miss : List Int) (hv : validP hit miss = true) (uses : List Int) (hb : uses.length < 1000000) : callOf pr 53 [.agg [LL hit, L miss], L uses] [] = some (I (missN (runC hit miss (emptyC miss) uses).1), []) := by
  obtain ⟨c, hc, h1⟩ := call_irun hit miss hv uses hb
  have hl := (runC_length hit miss uses (emptyC miss)).1
  have h := fun (i : Nat) (hi : i = 896 ∨ i = 897) => loop_imi i hi uses.length hb (runC hit miss (emptyC miss) uses).1 [] (runC_bits hit miss uses (emptyC miss)) (by simp [hl])
  simp only [List.nil_append, List.length_nil, List.sum_nil, Int.sub_zero] at h
  have h : ∀ (i : Nat) (hi : i = 896 ∨ i = 897), loopOf pr 53 0 ⟨[(8, I 0), (18, .os (.t i)), (19, I uses.length), (20, I 0)], [(i, .arr true false (.int .i64) (runC hit miss (emptyC miss) uses).1)]⟩ = some (.exit 0, ⟨[(8, I ((uses.length : Int) - (runC hit miss (emptyC miss) uses).1.sum)), (18, .os (.t i)), (19, I uses.length), (20, I uses.length)], [(i, .arr true false (.int .i64) (runC hit miss (emptyC miss) uses).1)]⟩) := h
  have hk : missN (runC hit miss (emptyC miss) uses).1 = (uses.length : Int) - (runC hit miss (emptyC miss) uses).1.sum := by rw [missN, hl]
  rw [call_eq pr 53 _ _ Try.f53 fn_53 _ rfl _ ann_53 rfl, hk]
  rcases hc with rfl | rfl
  · rw [if_pos rfl] at h1
    have h := h 897 (.inr rfl)
    simp -implicitDefEqProofs only [h1, hl, h, go_sem, Nat.reduceAdd, Nat.reduceSub, Nat.reduceMul, Nat.reduceMod, Nat.reduceLT, Nat.reduceLeDiff, Nat.reduceEqDiff, Nat.reduceBEq, Nat.reduceDiv, Int.reduceLT, Int.reduceLE, Int.reduceToNat, Int.reduceNeg, Int.reduceEq, ↓reduceIte, reduceCtorEq, ↓reduceDIte]
  · rw [if_neg (by omega)] at h1
    have h := h 896 (.inl rfl)
    simp -implicitDefEqProofs only [h1, hl, h, go_sem, Nat.reduceAdd, Nat.reduceSub, Nat.reduceMul, Nat.reduceMod, Nat.reduceLT, Nat.reduceLeDiff, Nat.reduceEqDiff, Nat.reduceBEq, Nat.reduceDiv, Int.reduceLT, Int.reduceLE, Int.reduceToNat, Int.reduceNeg, Int.reduceEq, ↓reduceIte, reduceCtorEq, ↓reduceDIte]
def fair (hit : List (List Int)) (miss uses : List Int) : Bool := validP hit miss && validU uses
theorem fair_len {hit : List (List Int)} {miss uses : List Int} (h : fair hit miss uses = true) : validP hit miss = true ∧ uses.length ≤ 60 := by
  simp only [fair, validU, Bool.and_eq_true, decide_eq_true_eq] at h
  exact ⟨h.1, h.2.2⟩
theorem call_imo (hit : List (List Int)) (miss : List Int) (h1 : hit.length < 1000000000000000000) (h2 : miss.length < 1000000000000000000) (hc : ∀ l ∈ hit, l.length < 1000000000000000000) (uses : List Int) (hu : uses.length < 1000000000000000000) : callOf pr 18 [.agg [LL hit, L miss], L uses] [] = some (if fair hit miss uses = true then .tuple [I (missN (runC hit miss (emptyC miss) uses).1), B true] else .tuple [I 0, B false], []) := by
  have g1 := call_vp hit miss h1 h2 hc
  have g2 := call_vu uses hu
  rw [call_eq pr 18 _ _ Try.f18 fn_18 _ rfl _ ann_18 rfl]
  cases hv : validP hit miss with
  | false =>
    rw [hv] at g1
    rw [if_neg (by simp [fair, hv])]
    simp -implicitDefEqProofs only [g1, go_sem, Nat.reduceAdd, Nat.reduceSub, Nat.reduceMul, Nat.reduceMod, Nat.reduceLT, Nat.reduceLeDiff, Nat.reduceEqDiff, Nat.reduceBEq, Nat.reduceDiv, Int.reduceLT, Int.reduceLE, Int.reduceToNat, Int.reduceNeg, Int.reduceEq, ↓reduceIte, reduceCtorEq, ↓reduceDIte]
  | true =>
    rw [hv] at g1
    cases hw : validU uses with
    | false =>
      rw [hw] at g2
      rw [if_neg (by simp [fair, hw])]
      simp -implicitDefEqProofs only [g1, g2, go_sem, Nat.reduceAdd, Nat.reduceSub, Nat.reduceMul, Nat.reduceMod, Nat.reduceLT, Nat.reduceLeDiff, Nat.reduceEqDiff, Nat.reduceBEq, Nat.reduceDiv, Int.reduceLT, Int.reduceLE, Int.reduceToNat, Int.reduceNeg, Int.reduceEq, ↓reduceIte, reduceCtorEq, ↓reduceDIte]
    | true =>
      rw [hw] at g2
      have hf : fair hit miss uses = true := by simp [fair, hv, hw]
      have g3 := call_imi hit miss hv uses (by have := (fair_len hf).2; omega)
      rw [if_pos hf]
      simp -implicitDefEqProofs only [g1, g2, g3, go_sem, Nat.reduceAdd, Nat.reduceSub, Nat.reduceMul, Nat.reduceMod, Nat.reduceLT, Nat.reduceLeDiff, Nat.reduceEqDiff, Nat.reduceBEq, Nat.reduceDiv, Int.reduceLT, Int.reduceLE, Int.reduceToNat, Int.reduceNeg, Int.reduceEq, ↓reduceIte, reduceCtorEq, ↓reduceDIte]
/-- Where the given program leaves a run. -/
theorem call_irp (hit : List (List Int)) (miss : List Int) (h1 : hit.length < 1000000000000000000) (h2 : miss.length < 1000000000000000000) (hc : ∀ l ∈ hit, l.length < 1000000000000000000) (uses : List Int) (hu : uses.length < 1000000000000000000) : if fair hit miss uses = true then
    (callOf pr 27 [.agg [LL hit, L miss], L uses] [] = some (.tuple [.os (.t 1345), .os (.t 1344), B true], [(1344, .arr true false (.int .i64) (runC hit miss (emptyC miss) uses).2.2), (1345, .arr true false (.int .i64) (runC hit miss (emptyC miss) uses).1)]) ∨
     callOf pr 27 [.agg [LL hit, L miss], L uses] [] = some (.tuple [.os (.t 1344), .os (.t 1346), B true], [(1344, .arr true false (.int .i64) (runC hit miss (emptyC miss) uses).1), (1346, .arr true false (.int .i64) (runC hit miss (emptyC miss) uses).2.2)]))
    else callOf pr 27 [.agg [LL hit, L miss], L uses] [] = some (.tuple [.nilS, .nilS, B false], []) := by
  have g1 := call_vp hit miss h1 h2 hc
  have g2 := call_vu uses hu
  cases hv : validP hit miss with
  | false =>
    rw [hv] at g1
    rw [if_neg (by simp [fair, hv])]
    rw [call_eq pr 27 _ _ Try.f27 fn_27 _ rfl _ ann_27 rfl]
    simp -implicitDefEqProofs only [g1, go_sem, Nat.reduceAdd, Nat.reduceSub, Nat.reduceMul, Nat.reduceMod, Nat.reduceLT, Nat.reduceLeDiff, Nat.reduceEqDiff, Nat.reduceBEq, Nat.reduceDiv, Int.reduceLT, Int.reduceLE, Int.reduceToNat, Int.reduceNeg, Int.reduceEq, ↓reduceIte, reduceCtorEq, ↓reduceDIte]
  | true =>
    rw [hv] at g1
    cases hw : validU uses with
    | false =>
      rw [hw] at g2
      rw [if_neg (by simp [fair, hw])]
      rw [call_eq pr 27 _ _ Try.f27 fn_27 _ rfl _ ann_27 rfl]
      simp -implicitDefEqProofs only [g1, g2, go_sem, Nat.reduceAdd, Nat.reduceSub, Nat.reduceMul, Nat.reduceMod, Nat.reduceLT, Nat.reduceLeDiff, Nat.reduceEqDiff, Nat.reduceBEq, Nat.reduceDiv, Int.reduceLT, Int.reduceLE, Int.reduceToNat, Int.reduceNeg, Int.reduceEq, ↓reduceIte, reduceCtorEq, ↓reduceDIte]
    | true =>
      rw [hw] at g2
      have hf : fair hit miss uses = true := by simp [fair, hv, hw]
      obtain ⟨c, hc, g3⟩ := call_irun hit miss hv uses (by have := (fair_len hf).2; omega)
      rw [if_pos hf]
      rcases hc with rfl | rfl
      · rw [if_pos rfl] at g3
        left
        rw [call_eq pr 27 _ _ Try.f27 fn_27 _ rfl _ ann_27 rfl]
        simp -implicitDefEqProofs only [g1, g2, g3, go_sem, Nat.reduceAdd, Nat.reduceSub, Nat.reduceMul, Nat.reduceMod, Nat.reduceLT, Nat.reduceLeDiff, Nat.reduceEqDiff, Nat.reduceBEq, Nat.reduceDiv, Int.reduceLT, Int.reduceLE, Int.reduceToNat, Int.reduceNeg, Int.reduceEq, ↓reduceIte, reduceCtorEq, ↓reduceDIte]
      · rw [if_neg (by omega)] at g3
        right
        rw [call_eq pr 27 _ _ Try.f27 fn_27 _ rfl _ ann_27 rfl]
        simp -implicitDefEqProofs only [g1, g2, g3, go_sem, Nat.reduceAdd, Nat.reduceSub, Nat.reduceMul, Nat.reduceMod, Nat.reduceLT, Nat.reduceLeDiff, Nat.reduceEqDiff, Nat.reduceBEq, Nat.reduceDiv, Int.reduceLT, Int.reduceLE, Int.reduceToNat, Int.reduceNeg, Int.reduceEq, ↓reduceIte, reduceCtorEq, ↓reduceDIte]
theorem call_iev (hit : List (List Int)) (miss : List Int) (h1 : hit.length < 1000000000000000000) (h2 : miss.length < 1000000000000000000) (hc : ∀ l ∈ hit, l.length < 1000000000000000000) (uses : List Int) (hu : uses.length < 1000000000000000000) : if fair hit miss uses = true then
    ∃ c, (c = 1282 ∨ c = 1281) ∧ callOf pr 22 [.agg [LL hit, L miss], L uses] [] = some (.tuple [.os (.t c), B true], [(c, .arr true false (.int .i64) (runC hit miss (emptyC miss) uses).2.1)])
    else callOf pr 22 [.agg [LL hit, L miss], L uses] [] = some (.tuple [.nilS, B false], []) := by
  have g1 := call_vp hit miss h1 h2 hc
  have g2 := call_vu uses hu
  cases hv : validP hit miss with
  | false =>
    rw [hv] at g1
    rw [if_neg (by simp [fair, hv])]
    rw [call_eq pr 22 _ _ Try.f22 fn_22 _ rfl _ ann_22 rfl]
    simp -implicitDefEqProofs only [g1, go_sem, Nat.reduceAdd, Nat.reduceSub, Nat.reduceMul, Nat.reduceMod, Nat.reduceLT, Nat.reduceLeDiff, Nat.reduceEqDiff, Nat.reduceBEq, Nat.reduceDiv, Int.reduceLT, Int.reduceLE, Int.reduceToNat, Int.reduceNeg, Int.reduceEq, ↓reduceIte, reduceCtorEq, ↓reduceDIte]
  | true =>
    rw [hv] at g1
    cases hw : validU uses with
    | false =>
      rw [hw] at g2
      rw [if_neg (by simp [fair, hw])]
      rw [call_eq pr 22 _ _ Try.f22 fn_22 _ rfl _ ann_22 rfl]
      simp -implicitDefEqProofs only [g1, g2, go_sem, Nat.reduceAdd, Nat.reduceSub, Nat.reduceMul, Nat.reduceMod, Nat.reduceLT, Nat.reduceLeDiff, Nat.reduceEqDiff, Nat.reduceBEq, Nat.reduceDiv, Int.reduceLT, Int.reduceLE, Int.reduceToNat, Int.reduceNeg, Int.reduceEq, ↓reduceIte, reduceCtorEq, ↓reduceDIte]
    | true =>
      rw [hw] at g2
      have hf : fair hit miss uses = true := by simp [fair, hv, hw]
      obtain ⟨c, hc, g3⟩ := call_irun hit miss hv uses (by have := (fair_len hf).2; omega)
      rw [if_pos hf]
      rcases hc with rfl | rfl
      · rw [if_pos rfl] at g3
        refine ⟨1282, .inl rfl, ?_⟩
        rw [call_eq pr 22 _ _ Try.f22 fn_22 _ rfl _ ann_22 rfl]
        simp -implicitDefEqProofs only [g1, g2, g3, go_sem, Nat.reduceAdd, Nat.reduceSub, Nat.reduceMul, Nat.reduceMod, Nat.reduceLT, Nat.reduceLeDiff, Nat.reduceEqDiff, Nat.reduceBEq, Nat.reduceDiv, Int.reduceLT, Int.reduceLE, Int.reduceToNat, Int.reduceNeg, Int.reduceEq, ↓reduceIte, reduceCtorEq, ↓reduceDIte]
      · rw [if_neg (by omega)] at g3
        refine ⟨1281, .inr rfl, ?_⟩
        rw [call_eq pr 22 _ _ Try.f22 fn_22 _ rfl _ ann_22 rfl]
        simp -implicitDefEqProofs only [g1, g2, g3, go_sem, Nat.reduceAdd, Nat.reduceSub, Nat.reduceMul, Nat.reduceMod, Nat.reduceLT, Nat.reduceLeDiff, Nat.reduceEqDiff, Nat.reduceBEq, Nat.reduceDiv, Int.reduceLT, Int.reduceLE, Int.reduceToNat, Int.reduceNeg, Int.reduceEq, ↓reduceIte, reduceCtorEq, ↓reduceDIte]
/-- All ages in order, and with one of them moved to the front. -/
def ascL (w : Nat) : List Int := (List.range w).map fun (k : Nat) => (k : Int)
def mvF (w i : Nat) : List Int := (i : Int) :: ((List.range w).filter fun k => decide (k ≠ i)).map fun (k : Nat) => (k : Int)
theorem perm_asc {now : List Int} {w : Nat} (h : now.length = w) : perm now (ascL w) = now := by
  subst h
  rw [perm, ascL, List.map_map]
  apply List.ext_getElem
  · simp
  · intro k h1 h2
    simp [List.getElem?_eq_getElem h2]
end Go.Proofs.Ytfooniikopekoaa.PI
