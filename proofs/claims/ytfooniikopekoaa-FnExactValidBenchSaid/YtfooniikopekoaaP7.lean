/- Misses, what is replaced, runs: the given functions. -/
import Derived.Test.YtfooniikopekoaaP6
namespace Go.Proofs.Ytfooniikopekoaa.PI
open Go Go.Q
set_option maxRecDepth 100000
set_option maxHeartbeats 4000000
set_option linter.unusedSimpArgs false
set_option linter.unusedVariables false
def bits01 (l : List Int) : Prop := ∀ x ∈ l, x = 0 ∨ x = 1
theorem sum01 : ∀ (l : List Int), bits01 l → 0 ≤ l.sum ∧ l.sum ≤ l.length
  | [], h => by simp
  | x :: l, h => by
    have h1 := sum01 l (fun y hy => h y (List.mem_cons_of_mem _ hy))
    have h2 := h x (List.mem_cons_self ..)
    simp only [List.sum_cons, List.length_cons]
    omega
theorem runC_bits (hit : List (List Int)) (miss : List Int) : ∀ (uses now : List Int), bits01 (runC hit miss now uses).1
  | [], now, x, hx => by simp [runC] at hx
  | a :: uses, now, x, hx => by
    simp only [runC, List.mem_cons] at hx
    rcases hx with hx | hx
    · split at hx <;> simp [hx]
    · exact runC_bits hit miss uses _ x hx
theorem loop_smi (n : Nat) (hb : n < 1000000) : ∀ (suf pre : List Int), bits01 (pre ++ suf) → pre.length + suf.length = n →
    loopOf pr 50 0 ⟨[(5, .os (.t 768)), (7, I ((n : Int) - pre.sum)), (8, I pre.length)], [(768, .arr true false (.int .i64) (pre ++ suf))]⟩ = some (.exit 0, ⟨[(5, .os (.t 768)), (7, I ((n : Int) - (pre ++ suf).sum)), (8, I n)], [(768, .arr true false (.int .i64) (pre ++ suf))]⟩)
  | [], pre, h, hl => by
    have : n = pre.length := by simp at hl; exact hl.symm
    subst this
    rw [loop_eq pr 50 0 _ Try.f50 fn_50 _ rfl _ ann_50 _ rfl]
    simp -implicitDefEqProofs only [Int.lt_irrefl, List.append_nil, Nat.add_zero, go_sem, Nat.reduceAdd, Nat.reduceSub, Nat.reduceMul, Nat.reduceMod, Nat.reduceLT, Nat.reduceLeDiff, Nat.reduceEqDiff, Nat.reduceBEq, Nat.reduceDiv, Int.reduceLT, Int.reduceLE, Int.reduceToNat, Int.reduceNeg, Int.reduceEq, ↓reduceIte, reduceCtorEq, ↓reduceDIte, Bool.false_eq_true, Bool.true_eq_false, ne_eq, not_true_eq_false, not_false_eq_true, Bool.true_or, Bool.false_or, Bool.or_true, Bool.or_false, Bool.true_and, Bool.false_and, Bool.and_true, Bool.and_false, Bool.not_true, Bool.not_false, Bool.not_eq_false', Bool.not_eq_true', and_true, true_and, and_false, false_and, or_true, true_or, or_false, false_or, and_self, or_self, decide_eq_true_eq, decide_true, decide_false, decide_eq_false_iff_not, ite_not, if_true, if_false, eq_self]
  | x :: suf, pre, h, hl => by
    simp only [List.length_cons] at hl
    have hx := h x (by simp)
    have hp := sum01 pre (fun y hy => h y (by simp [hy]))
    have hs := sum01 suf (fun y hy => h y (by simp [hy]))
    have hw : IntKind.i64.wrap ((pre.length : Int) + 1) = ((pre.length + 1 : Nat) : Int) := by rw [wrap_i] <;> omega
    have hw2 : IntKind.i64.wrap ((n : Int) - pre.sum - x) = (n : Int) - (pre ++ [x]).sum := by
      have e : (pre ++ [x]).sum = pre.sum + x := by simp
      rw [e, wrap_i] <;> omega
    have ih := loop_smi n hb suf (pre ++ [x]) (by rw [app_one]; exact h) (by simp; omega)
    have e1 : (pre ++ [x]).length = pre.length + 1 := by simp
    rw [app_one, e1] at ih
    rw [loop_eq pr 50 0 _ Try.f50 fn_50 _ rfl _ ann_50 _ rfl]
    simp -implicitDefEqProofs only [getD_app, lt_app, ltn_app, zero_le_cast, Int.toNat_natCast, hw, hw2, go_sem, Nat.reduceAdd, Nat.reduceSub, Nat.reduceMul, Nat.reduceMod, Nat.reduceLT, Nat.reduceLeDiff, Nat.reduceEqDiff, Nat.reduceBEq, Nat.reduceDiv, Int.reduceLT, Int.reduceLE, Int.reduceToNat, Int.reduceNeg, Int.reduceEq, ↓reduceIte, reduceCtorEq, ↓reduceDIte, Bool.false_eq_true, Bool.true_eq_false, ne_eq, not_true_eq_false, not_false_eq_true, Bool.true_or, Bool.false_or, Bool.or_true, Bool.or_false, Bool.true_and, Bool.false_and, Bool.and_true, Bool.and_false, Bool.not_true, Bool.not_false, Bool.not_eq_false', Bool.not_eq_true', and_true, true_and, and_false, false_and, or_true, true_or, or_false, false_or, and_self, or_self, decide_eq_true_eq, decide_true, decide_false, decide_eq_false_iff_not, ite_not, if_true, if_false, eq_self]
    exact ih
def missN (hs : List Int) : Int := hs.length - hs.sum
theorem call_smi (hit : List (List Int)) (miss : List Int) (hv : validP hit miss = true) (uses : List Int) (hb : uses.length < 1000000) : callOf pr 50 [.rp [LL hit, L miss], L uses] [] = some (I (missN (runC hit miss (emptyC miss) uses).1), []) := by
  obtain ⟨c, hc, h1⟩ := call_srun hit miss hv uses hb
  have hl := (runC_length hit miss uses (emptyC miss)).1
  have h := loop_smi uses.length hb (runC hit miss (emptyC miss) uses).1 [] (runC_bits hit miss uses (emptyC miss)) (by simp [hl])
  simp only [List.nil_append, List.length_nil, List.sum_nil, Int.sub_zero] at h
  have h : loopOf pr 50 0 ⟨[(5, .os (.t 768)), (7, I uses.length), (8, I 0)], [(768, .arr true false (.int .i64) (runC hit miss (emptyC miss) uses).1)]⟩ = _ := h
  have hk : missN (runC hit miss (emptyC miss) uses).1 = (uses.length : Int) - (runC hit miss (emptyC miss) uses).1.sum := by rw [missN, hl]
  rw [call_eq pr 50 _ _ Try.f50 fn_50 _ rfl _ ann_50 rfl, hk]
  rcases hc with rfl | rfl
  · simp -implicitDefEqProofs only [h1, hl, h, go_sem, Nat.reduceAdd, Nat.reduceSub, Nat.reduceMul, Nat.reduceMod, Nat.reduceLT, Nat.reduceLeDiff, Nat.reduceEqDiff, Nat.reduceBEq, Nat.reduceDiv, Int.reduceLT, Int.reduceLE, Int.reduceToNat, Int.reduceNeg, Int.reduceEq, ↓reduceIte, reduceCtorEq, ↓reduceDIte, Bool.false_eq_true, Bool.true_eq_false, ne_eq, not_true_eq_false, not_false_eq_true, Bool.true_or, Bool.false_or, Bool.or_true, Bool.or_false, Bool.true_and, Bool.false_and, Bool.and_true, Bool.and_false, Bool.not_true, Bool.not_false, Bool.not_eq_false', Bool.not_eq_true', and_true, true_and, and_false, false_and, or_true, true_or, or_false, false_or, and_self, or_self, decide_eq_true_eq, decide_true, decide_false, decide_eq_false_iff_not, ite_not, if_true, if_false, eq_self]
  · simp -implicitDefEqProofs only [h1, hl, h, go_sem, Nat.reduceAdd, Nat.reduceSub, Nat.reduceMul, Nat.reduceMod, Nat.reduceLT, Nat.reduceLeDiff, Nat.reduceEqDiff, Nat.reduceBEq, Nat.reduceDiv, Int.reduceLT, Int.reduceLE, Int.reduceToNat, Int.reduceNeg, Int.reduceEq, ↓reduceIte, reduceCtorEq, ↓reduceDIte, Bool.false_eq_true, Bool.true_eq_false, ne_eq, not_true_eq_false, not_false_eq_true, Bool.true_or, Bool.false_or, Bool.or_true, Bool.or_false, Bool.true_and, Bool.false_and, Bool.and_true, Bool.and_false, Bool.not_true, Bool.not_false, Bool.not_eq_false', Bool.not_eq_true', and_true, true_and, and_false, false_and, or_true, true_or, or_false, false_or, and_self, or_self, decide_eq_true_eq, decide_true, decide_false, decide_eq_false_iff_not, ite_not, if_true, if_false, eq_self]
theorem loop_imi (i : Nat) (hi : i = 896 ∨ i = 897) (n : Nat) (hb : n < 1000000) : ∀ (suf pre : List Int), bits01 (pre ++ suf) → pre.length + suf.length = n →
    loopOf pr 53 0 ⟨[(8, I ((pre.length : Int) - pre.sum)), (18, .os (.t i)), (19, I n), (20, I pre.length)], [(i, .arr true false (.int .i64) (pre ++ suf))]⟩ = some (.exit 0, ⟨[(8, I ((n : Int) - (pre ++ suf).sum)), (18, .os (.t i)), (19, I n), (20, I n)], [(i, .arr true false (.int .i64) (pre ++ suf))]⟩)
  | [], pre, h, hl => by
    have : n = pre.length := by simp at hl; exact hl.symm
    subst this
    rw [loop_eq pr 53 0 _ Try.f53 fn_53 _ rfl _ ann_53 _ rfl]
    rcases hi with rfl | rfl
    · simp -implicitDefEqProofs only [Int.lt_irrefl, List.append_nil, Nat.add_zero, go_sem, Nat.reduceAdd, Nat.reduceSub, Nat.reduceMul, Nat.reduceMod, Nat.reduceLT, Nat.reduceLeDiff, Nat.reduceEqDiff, Nat.reduceBEq, Nat.reduceDiv, Int.reduceLT, Int.reduceLE, Int.reduceToNat, Int.reduceNeg, Int.reduceEq, ↓reduceIte, reduceCtorEq, ↓reduceDIte, Bool.false_eq_true, Bool.true_eq_false, ne_eq, not_true_eq_false, not_false_eq_true, Bool.true_or, Bool.false_or, Bool.or_true, Bool.or_false, Bool.true_and, Bool.false_and, Bool.and_true, Bool.and_false, Bool.not_true, Bool.not_false, Bool.not_eq_false', Bool.not_eq_true', and_true, true_and, and_false, false_and, or_true, true_or, or_false, false_or, and_self, or_self, decide_eq_true_eq, decide_true, decide_false, decide_eq_false_iff_not, ite_not, if_true, if_false, eq_self]
    · simp -implicitDefEqProofs only [Int.lt_irrefl, List.append_nil, Nat.add_zero, go_sem, Nat.reduceAdd, Nat.reduceSub, Nat.reduceMul, Nat.reduceMod, Nat.reduceLT, Nat.reduceLeDiff, Nat.reduceEqDiff, Nat.reduceBEq, Nat.reduceDiv, Int.reduceLT, Int.reduceLE, Int.reduceToNat, Int.reduceNeg, Int.reduceEq, ↓reduceIte, reduceCtorEq, ↓reduceDIte, Bool.false_eq_true, Bool.true_eq_false, ne_eq, not_true_eq_false, not_false_eq_true, Bool.true_or, Bool.false_or, Bool.or_true, Bool.or_false, Bool.true_and, Bool.false_and, Bool.and_true, Bool.and_false, Bool.not_true, Bool.not_false, Bool.not_eq_false', Bool.not_eq_true', and_true, true_and, and_false, false_and, or_true, true_or, or_false, false_or, and_self, or_self, decide_eq_true_eq, decide_true, decide_false, decide_eq_false_iff_not, ite_not, if_true, if_false, eq_self]
  | x :: suf, pre, h, hl => by
    simp only [List.length_cons] at hl
    have hx := h x (by simp)
    have hp := sum01 pre (fun y hy => h y (by simp [hy]))
    have hlt : ((pre.length : Int) < (n : Int)) = True := tr (by omega)
    have hw : IntKind.i64.wrap ((pre.length : Int) + 1) = ((pre.length + 1 : Nat) : Int) := by rw [wrap_i] <;> omega
    have hw1 : IntKind.i64.wrap (1 - x) = 1 - x := by rw [wrap_i] <;> omega
    have hw2 : IntKind.i64.wrap ((pre.length : Int) - pre.sum + (1 - x)) = ((pre.length + 1 : Nat) : Int) - (pre ++ [x]).sum := by
      have e : (pre ++ [x]).sum = pre.sum + x := by simp
      rw [e, wrap_i] <;> omega
    have ih := loop_imi i hi n hb suf (pre ++ [x]) (by rw [app_one]; exact h) (by simp; omega)
    have e1 : (pre ++ [x]).length = pre.length + 1 := by simp
    rw [app_one, e1] at ih
    rw [loop_eq pr 53 0 _ Try.f53 fn_53 _ rfl _ ann_53 _ rfl]
    rcases hi with rfl | rfl
    · simp -implicitDefEqProofs only [hlt, getD_app, lt_app, ltn_app, zero_le_cast, Int.toNat_natCast, hw, hw1, hw2, go_sem, Nat.reduceAdd, Nat.reduceSub, Nat.reduceMul, Nat.reduceMod, Nat.reduceLT, Nat.reduceLeDiff, Nat.reduceEqDiff, Nat.reduceBEq, Nat.reduceDiv, Int.reduceLT, Int.reduceLE, Int.reduceToNat, Int.reduceNeg, Int.reduceEq, ↓reduceIte, reduceCtorEq, ↓reduceDIte, Bool.false_eq_true, Bool.true_eq_false, ne_eq, not_true_eq_false, not_false_eq_true, Bool.true_or, Bool.false_or, Bool.or_true, Bool.or_false, Bool.true_and, Bool.false_and, Bool.and_true, Bool.and_false, Bool.not_true, Bool.not_false, Bool.not_eq_false', Bool.not_eq_true', and_true, true_and, and_false, false_and, or_true, true_or, or_false, false_or, and_self, or_self, decide_eq_true_eq, decide_true, decide_false, decide_eq_false_iff_not, ite_not, if_true, if_false, eq_self]
      exact ih
    · simp -implicitDefEqProofs only [hlt, getD_app, lt_app, ltn_app, zero_le_cast, Int.toNat_natCast, hw, hw1, hw2, go_sem, Nat.reduceAdd, Nat.reduceSub, Nat.reduceMul, Nat.reduceMod, Nat.reduceLT, Nat.reduceLeDiff, Nat.reduceEqDiff, Nat.reduceBEq, Nat.reduceDiv, Int.reduceLT, Int.reduceLE, Int.reduceToNat, Int.reduceNeg, Int.reduceEq, ↓reduceIte, reduceCtorEq, ↓reduceDIte, Bool.false_eq_true, Bool.true_eq_false, ne_eq, not_true_eq_false, not_false_eq_true, Bool.true_or, Bool.false_or, Bool.or_true, Bool.or_false, Bool.true_and, Bool.false_and, Bool.and_true, Bool.and_false, Bool.not_true, Bool.not_false, Bool.not_eq_false', Bool.not_eq_true', and_true, true_and, and_false, false_and, or_true, true_or, or_false, false_or, and_self, or_self, decide_eq_true_eq, decide_true, decide_false, decide_eq_false_iff_not, ite_not, if_true, if_false, eq_self]
      exact ih
theorem call_imi (hit : List (List Int)) (miss : List Int) (hv : validP hit miss = true) (uses : List Int) (hb : uses.length < 1000000) : callOf pr 53 [.agg [LL hit, L miss], L uses] [] = some (I (missN (runC hit miss (emptyC miss) uses).1), []) := by
  obtain ⟨c, hc, h1⟩ := call_irun hit miss hv uses hb
  have hl := (runC_length hit miss uses (emptyC miss)).1
  have h := fun (i : Nat) (hi : i = 896 ∨ i = 897) => loop_imi i hi uses.length hb (runC hit miss (emptyC miss) uses).1 [] (runC_bits hit miss uses (emptyC miss)) (by simp [hl])
  simp only [List.nil_append, List.length_nil, List.sum_nil, Int.sub_zero] at h
  have h : ∀ (i : Nat) (hi : i = 896 ∨ i = 897), loopOf pr 53 0 ⟨[(8, I 0), (18, .os (.t i)), (19, I uses.length), (20, I 0)], [(i, .arr true false (.int .i64) (runC hit miss (emptyC miss) uses).1)]⟩ = some (.exit 0, ⟨[(8, I ((uses.length : Int) - (runC hit miss (emptyC miss) uses).1.sum)), (18, .os (.t i)), (19, I uses.length), (20, I uses.length)], [(i, .arr true false (.int .i64) (runC hit miss (emptyC miss) uses).1)]⟩) := h
  have hk : missN (runC hit miss (emptyC miss) uses).1 = (uses.length : Int) - (runC hit miss (emptyC miss) uses).1.sum := by rw [missN, hl]
  rw [call_eq pr 53 _ _ Try.f53 fn_53 _ rfl _ ann_53 rfl, hk]
  rcases hc with rfl | rfl
  · rw [if_pos rfl] at h1
    have h := h 897 (.inr rfl)
    simp -implicitDefEqProofs only [h1, hl, h, go_sem, Nat.reduceAdd, Nat.reduceSub, Nat.reduceMul, Nat.reduceMod, Nat.reduceLT, Nat.reduceLeDiff, Nat.reduceEqDiff, Nat.reduceBEq, Nat.reduceDiv, Int.reduceLT, Int.reduceLE, Int.reduceToNat, Int.reduceNeg, Int.reduceEq, ↓reduceIte, reduceCtorEq, ↓reduceDIte, Bool.false_eq_true, Bool.true_eq_false, ne_eq, not_true_eq_false, not_false_eq_true, Bool.true_or, Bool.false_or, Bool.or_true, Bool.or_false, Bool.true_and, Bool.false_and, Bool.and_true, Bool.and_false, Bool.not_true, Bool.not_false, Bool.not_eq_false', Bool.not_eq_true', and_true, true_and, and_false, false_and, or_true, true_or, or_false, false_or, and_self, or_self, decide_eq_true_eq, decide_true, decide_false, decide_eq_false_iff_not, ite_not, if_true, if_false, eq_self]
  · rw [if_neg (by omega)] at h1
    have h := h 896 (.inl rfl)
    simp -implicitDefEqProofs only [h1, hl, h, go_sem, Nat.reduceAdd, Nat.reduceSub, Nat.reduceMul, Nat.reduceMod, Nat.reduceLT, Nat.reduceLeDiff, Nat.reduceEqDiff, Nat.reduceBEq, Nat.reduceDiv, Int.reduceLT, Int.reduceLE, Int.reduceToNat, Int.reduceNeg, Int.reduceEq, ↓reduceIte, reduceCtorEq, ↓reduceDIte, Bool.false_eq_true, Bool.true_eq_false, ne_eq, not_true_eq_false, not_false_eq_true, Bool.true_or, Bool.false_or, Bool.or_true, Bool.or_false, Bool.true_and, Bool.false_and, Bool.and_true, Bool.and_false, Bool.not_true, Bool.not_false, Bool.not_eq_false', Bool.not_eq_true', and_true, true_and, and_false, false_and, or_true, true_or, or_false, false_or, and_self, or_self, decide_eq_true_eq, decide_true, decide_false, decide_eq_false_iff_not, ite_not, if_true, if_false, eq_self]
def fair (hit : List (List Int)) (miss uses : List Int) : Bool := validP hit miss && validU uses
theorem fair_len {hit : List (List Int)} {miss uses : List Int} (h : fair hit miss uses = true) : validP hit miss = true ∧ uses.length ≤ 60 := by
  simp only [fair, validU, Bool.and_eq_true, decide_eq_true_eq] at h
  exact ⟨h.1, h.2.2⟩
theorem call_smo (hit : List (List Int)) (miss : List Int) (h1 : hit.length < 1000000000000000000) (h2 : miss.length < 1000000000000000000) (hc : ∀ l ∈ hit, l.length < 1000000000000000000) (uses : List Int) (hu : uses.length < 1000000000000000000) : callOf pr 15 [.agg [LL hit, L miss], L uses] [] = some (if fair hit miss uses = true then .tuple [I (missN (runC hit miss (emptyC miss) uses).1), B true] else .tuple [I 0, B false], []) := by
  have g1 := call_is hit miss h1 h2 hc
  have g2 := call_su uses hu
  rw [call_eq pr 15 _ _ Try.f15 fn_15 _ rfl _ ann_15 rfl]
  cases hv : validP hit miss with
  | false =>
    rw [hv] at g1
    rw [if_neg (by simp [fair, hv])]
    simp -implicitDefEqProofs only [g1, go_sem, Nat.reduceAdd, Nat.reduceSub, Nat.reduceMul, Nat.reduceMod, Nat.reduceLT, Nat.reduceLeDiff, Nat.reduceEqDiff, Nat.reduceBEq, Nat.reduceDiv, Int.reduceLT, Int.reduceLE, Int.reduceToNat, Int.reduceNeg, Int.reduceEq, ↓reduceIte, reduceCtorEq, ↓reduceDIte, Bool.false_eq_true, Bool.true_eq_false, ne_eq, not_true_eq_false, not_false_eq_true, Bool.true_or, Bool.false_or, Bool.or_true, Bool.or_false, Bool.true_and, Bool.false_and, Bool.and_true, Bool.and_false, Bool.not_true, Bool.not_false, Bool.not_eq_false', Bool.not_eq_true', and_true, true_and, and_false, false_and, or_true, true_or, or_false, false_or, and_self, or_self, decide_eq_true_eq, decide_true, decide_false, decide_eq_false_iff_not, ite_not, if_true, if_false, eq_self]
  | true =>
    rw [hv] at g1
    cases hw : validU uses with
    | false =>
      rw [hw] at g2
      rw [if_neg (by simp [fair, hw])]
      simp -implicitDefEqProofs only [g1, g2, go_sem, Nat.reduceAdd, Nat.reduceSub, Nat.reduceMul, Nat.reduceMod, Nat.reduceLT, Nat.reduceLeDiff, Nat.reduceEqDiff, Nat.reduceBEq, Nat.reduceDiv, Int.reduceLT, Int.reduceLE, Int.reduceToNat, Int.reduceNeg, Int.reduceEq, ↓reduceIte, reduceCtorEq, ↓reduceDIte, Bool.false_eq_true, Bool.true_eq_false, ne_eq, not_true_eq_false, not_false_eq_true, Bool.true_or, Bool.false_or, Bool.or_true, Bool.or_false, Bool.true_and, Bool.false_and, Bool.and_true, Bool.and_false, Bool.not_true, Bool.not_false, Bool.not_eq_false', Bool.not_eq_true', and_true, true_and, and_false, false_and, or_true, true_or, or_false, false_or, and_self, or_self, decide_eq_true_eq, decide_true, decide_false, decide_eq_false_iff_not, ite_not, if_true, if_false, eq_self]
    | true =>
      rw [hw] at g2
      have hf : fair hit miss uses = true := by simp [fair, hv, hw]
      have g3 := call_smi hit miss hv uses (by have := (fair_len hf).2; omega)
      rw [if_pos hf]
      simp -implicitDefEqProofs only [g1, g2, g3, go_sem, Nat.reduceAdd, Nat.reduceSub, Nat.reduceMul, Nat.reduceMod, Nat.reduceLT, Nat.reduceLeDiff, Nat.reduceEqDiff, Nat.reduceBEq, Nat.reduceDiv, Int.reduceLT, Int.reduceLE, Int.reduceToNat, Int.reduceNeg, Int.reduceEq, ↓reduceIte, reduceCtorEq, ↓reduceDIte, Bool.false_eq_true, Bool.true_eq_false, ne_eq, not_true_eq_false, not_false_eq_true, Bool.true_or, Bool.false_or, Bool.or_true, Bool.or_false, Bool.true_and, Bool.false_and, Bool.and_true, Bool.and_false, Bool.not_true, Bool.not_false, Bool.not_eq_false', Bool.not_eq_true', and_true, true_and, and_false, false_and, or_true, true_or, or_false, false_or, and_self, or_self, decide_eq_true_eq, decide_true, decide_false, decide_eq_false_iff_not, ite_not, if_true, if_false, eq_self]
theorem call_imo (hit : List (List Int)) (miss : List Int) (h1 : hit.length < 1000000000000000000) (h2 : miss.length < 1000000000000000000) (hc : ∀ l ∈ hit, l.length < 1000000000000000000) (uses : List Int) (hu : uses.length < 1000000000000000000) : callOf pr 18 [.agg [LL hit, L miss], L uses] [] = some (if fair hit miss uses = true then .tuple [I (missN (runC hit miss (emptyC miss) uses).1), B true] else .tuple [I 0, B false], []) := by
  have g1 := call_vp hit miss h1 h2 hc
  have g2 := call_vu uses hu
  rw [call_eq pr 18 _ _ Try.f18 fn_18 _ rfl _ ann_18 rfl]
  cases hv : validP hit miss with
  | false =>
    rw [hv] at g1
    rw [if_neg (by simp [fair, hv])]
    simp -implicitDefEqProofs only [g1, go_sem, Nat.reduceAdd, Nat.reduceSub, Nat.reduceMul, Nat.reduceMod, Nat.reduceLT, Nat.reduceLeDiff, Nat.reduceEqDiff, Nat.reduceBEq, Nat.reduceDiv, Int.reduceLT, Int.reduceLE, Int.reduceToNat, Int.reduceNeg, Int.reduceEq, ↓reduceIte, reduceCtorEq, ↓reduceDIte, Bool.false_eq_true, Bool.true_eq_false, ne_eq, not_true_eq_false, not_false_eq_true, Bool.true_or, Bool.false_or, Bool.or_true, Bool.or_false, Bool.true_and, Bool.false_and, Bool.and_true, Bool.and_false, Bool.not_true, Bool.not_false, Bool.not_eq_false', Bool.not_eq_true', and_true, true_and, and_false, false_and, or_true, true_or, or_false, false_or, and_self, or_self, decide_eq_true_eq, decide_true, decide_false, decide_eq_false_iff_not, ite_not, if_true, if_false, eq_self]
  | true =>
    rw [hv] at g1
    cases hw : validU uses with
    | false =>
      rw [hw] at g2
      rw [if_neg (by simp [fair, hw])]
      simp -implicitDefEqProofs only [g1, g2, go_sem, Nat.reduceAdd, Nat.reduceSub, Nat.reduceMul, Nat.reduceMod, Nat.reduceLT, Nat.reduceLeDiff, Nat.reduceEqDiff, Nat.reduceBEq, Nat.reduceDiv, Int.reduceLT, Int.reduceLE, Int.reduceToNat, Int.reduceNeg, Int.reduceEq, ↓reduceIte, reduceCtorEq, ↓reduceDIte, Bool.false_eq_true, Bool.true_eq_false, ne_eq, not_true_eq_false, not_false_eq_true, Bool.true_or, Bool.false_or, Bool.or_true, Bool.or_false, Bool.true_and, Bool.false_and, Bool.and_true, Bool.and_false, Bool.not_true, Bool.not_false, Bool.not_eq_false', Bool.not_eq_true', and_true, true_and, and_false, false_and, or_true, true_or, or_false, false_or, and_self, or_self, decide_eq_true_eq, decide_true, decide_false, decide_eq_false_iff_not, ite_not, if_true, if_false, eq_self]
    | true =>
      rw [hw] at g2
      have hf : fair hit miss uses = true := by simp [fair, hv, hw]
      have g3 := call_imi hit miss hv uses (by have := (fair_len hf).2; omega)
      rw [if_pos hf]
      simp -implicitDefEqProofs only [g1, g2, g3, go_sem, Nat.reduceAdd, Nat.reduceSub, Nat.reduceMul, Nat.reduceMod, Nat.reduceLT, Nat.reduceLeDiff, Nat.reduceEqDiff, Nat.reduceBEq, Nat.reduceDiv, Int.reduceLT, Int.reduceLE, Int.reduceToNat, Int.reduceNeg, Int.reduceEq, ↓reduceIte, reduceCtorEq, ↓reduceDIte, Bool.false_eq_true, Bool.true_eq_false, ne_eq, not_true_eq_false, not_false_eq_true, Bool.true_or, Bool.false_or, Bool.or_true, Bool.or_false, Bool.true_and, Bool.false_and, Bool.and_true, Bool.and_false, Bool.not_true, Bool.not_false, Bool.not_eq_false', Bool.not_eq_true', and_true, true_and, and_false, false_and, or_true, true_or, or_false, false_or, and_self, or_self, decide_eq_true_eq, decide_true, decide_false, decide_eq_false_iff_not, ite_not, if_true, if_false, eq_self]
theorem call_srp (hit : List (List Int)) (miss : List Int) (h1 : hit.length < 1000000000000000000) (h2 : miss.length < 1000000000000000000) (hc : ∀ l ∈ hit, l.length < 1000000000000000000) (uses : List Int) (hu : uses.length < 1000000000000000000) : callOf pr 26 [.agg [LL hit, L miss], L uses] [] = if fair hit miss uses = true then some (.tuple [.os (.t 1152), .os (.t 1153), B true], [(1152, .arr true false (.int .i64) (runC hit miss (emptyC miss) uses).1), (1153, .arr true false (.int .i64) (runC hit miss (emptyC miss) uses).2.2)]) else some (.tuple [.nilS, .nilS, B false], []) := by
  have g1 := call_is hit miss h1 h2 hc
  have g2 := call_su uses hu
  rw [call_eq pr 26 _ _ Try.f26 fn_26 _ rfl _ ann_26 rfl]
  cases hv : validP hit miss with
  | false =>
    rw [hv] at g1
    rw [if_neg (by simp [fair, hv])]
    simp -implicitDefEqProofs only [g1, go_sem, Nat.reduceAdd, Nat.reduceSub, Nat.reduceMul, Nat.reduceMod, Nat.reduceLT, Nat.reduceLeDiff, Nat.reduceEqDiff, Nat.reduceBEq, Nat.reduceDiv, Int.reduceLT, Int.reduceLE, Int.reduceToNat, Int.reduceNeg, Int.reduceEq, ↓reduceIte, reduceCtorEq, ↓reduceDIte, Bool.false_eq_true, Bool.true_eq_false, ne_eq, not_true_eq_false, not_false_eq_true, Bool.true_or, Bool.false_or, Bool.or_true, Bool.or_false, Bool.true_and, Bool.false_and, Bool.and_true, Bool.and_false, Bool.not_true, Bool.not_false, Bool.not_eq_false', Bool.not_eq_true', and_true, true_and, and_false, false_and, or_true, true_or, or_false, false_or, and_self, or_self, decide_eq_true_eq, decide_true, decide_false, decide_eq_false_iff_not, ite_not, if_true, if_false, eq_self]
  | true =>
    rw [hv] at g1
    cases hw : validU uses with
    | false =>
      rw [hw] at g2
      rw [if_neg (by simp [fair, hw])]
      simp -implicitDefEqProofs only [g1, g2, go_sem, Nat.reduceAdd, Nat.reduceSub, Nat.reduceMul, Nat.reduceMod, Nat.reduceLT, Nat.reduceLeDiff, Nat.reduceEqDiff, Nat.reduceBEq, Nat.reduceDiv, Int.reduceLT, Int.reduceLE, Int.reduceToNat, Int.reduceNeg, Int.reduceEq, ↓reduceIte, reduceCtorEq, ↓reduceDIte, Bool.false_eq_true, Bool.true_eq_false, ne_eq, not_true_eq_false, not_false_eq_true, Bool.true_or, Bool.false_or, Bool.or_true, Bool.or_false, Bool.true_and, Bool.false_and, Bool.and_true, Bool.and_false, Bool.not_true, Bool.not_false, Bool.not_eq_false', Bool.not_eq_true', and_true, true_and, and_false, false_and, or_true, true_or, or_false, false_or, and_self, or_self, decide_eq_true_eq, decide_true, decide_false, decide_eq_false_iff_not, ite_not, if_true, if_false, eq_self]
    | true =>
      rw [hw] at g2
      have hf : fair hit miss uses = true := by simp [fair, hv, hw]
      obtain ⟨c, hc, g3⟩ := call_srun hit miss hv uses (by have := (fair_len hf).2; omega)
      rw [if_pos hf]
      rcases hc with rfl | rfl
      · simp -implicitDefEqProofs only [g1, g2, g3, go_sem, Nat.reduceAdd, Nat.reduceSub, Nat.reduceMul, Nat.reduceMod, Nat.reduceLT, Nat.reduceLeDiff, Nat.reduceEqDiff, Nat.reduceBEq, Nat.reduceDiv, Int.reduceLT, Int.reduceLE, Int.reduceToNat, Int.reduceNeg, Int.reduceEq, ↓reduceIte, reduceCtorEq, ↓reduceDIte, Bool.false_eq_true, Bool.true_eq_false, ne_eq, not_true_eq_false, not_false_eq_true, Bool.true_or, Bool.false_or, Bool.or_true, Bool.or_false, Bool.true_and, Bool.false_and, Bool.and_true, Bool.and_false, Bool.not_true, Bool.not_false, Bool.not_eq_false', Bool.not_eq_true', and_true, true_and, and_false, false_and, or_true, true_or, or_false, false_or, and_self, or_self, decide_eq_true_eq, decide_true, decide_false, decide_eq_false_iff_not, ite_not, if_true, if_false, eq_self]
      · simp -implicitDefEqProofs only [g1, g2, g3, go_sem, Nat.reduceAdd, Nat.reduceSub, Nat.reduceMul, Nat.reduceMod, Nat.reduceLT, Nat.reduceLeDiff, Nat.reduceEqDiff, Nat.reduceBEq, Nat.reduceDiv, Int.reduceLT, Int.reduceLE, Int.reduceToNat, Int.reduceNeg, Int.reduceEq, ↓reduceIte, reduceCtorEq, ↓reduceDIte, Bool.false_eq_true, Bool.true_eq_false, ne_eq, not_true_eq_false, not_false_eq_true, Bool.true_or, Bool.false_or, Bool.or_true, Bool.or_false, Bool.true_and, Bool.false_and, Bool.and_true, Bool.and_false, Bool.not_true, Bool.not_false, Bool.not_eq_false', Bool.not_eq_true', and_true, true_and, and_false, false_and, or_true, true_or, or_false, false_or, and_self, or_self, decide_eq_true_eq, decide_true, decide_false, decide_eq_false_iff_not, ite_not, if_true, if_false, eq_self]
/-- Where the given program leaves a run. -/
theorem call_irp (hit : List (List Int)) (miss : List Int) (h1 : hit.length < 1000000000000000000) (h2 : miss.length < 1000000000000000000) (hc : ∀ l ∈ hit, l.length < 1000000000000000000) (uses : List Int) (hu : uses.length < 1000000000000000000) : if fair hit miss uses = true then
    (callOf pr 27 [.agg [LL hit, L miss], L uses] [] = some (.tuple [.os (.t 1345), .os (.t 1344), B true], [(1344, .arr true false (.int .i64) (runC hit miss (emptyC miss) uses).2.2), (1345, .arr true false (.int .i64) (runC hit miss (emptyC miss) uses).1)]) ∨
     callOf pr 27 [.agg [LL hit, L miss], L uses] [] = some (.tuple [.os (.t 1344), .os (.t 1346), B true], [(1344, .arr true false (.int .i64) (runC hit miss (emptyC miss) uses).1), (1346, .arr true false (.int .i64) (runC hit miss (emptyC miss) uses).2.2)]))
    else callOf pr 27 [.agg [LL hit, L miss], L uses] [] = some (.tuple [.nilS, .nilS, B false], []) := by
  have g1 := call_vp hit miss h1 h2 hc
  have g2 := call_vu uses hu
  cases hv : validP hit miss with
  | false =>
    rw [hv] at g1
    rw [if_neg (by simp [fair, hv])]
    rw [call_eq pr 27 _ _ Try.f27 fn_27 _ rfl _ ann_27 rfl]
    simp -implicitDefEqProofs only [g1, go_sem, Nat.reduceAdd, Nat.reduceSub, Nat.reduceMul, Nat.reduceMod, Nat.reduceLT, Nat.reduceLeDiff, Nat.reduceEqDiff, Nat.reduceBEq, Nat.reduceDiv, Int.reduceLT, Int.reduceLE, Int.reduceToNat, Int.reduceNeg, Int.reduceEq, ↓reduceIte, reduceCtorEq, ↓reduceDIte, Bool.false_eq_true, Bool.true_eq_false, ne_eq, not_true_eq_false, not_false_eq_true, Bool.true_or, Bool.false_or, Bool.or_true, Bool.or_false, Bool.true_and, Bool.false_and, Bool.and_true, Bool.and_false, Bool.not_true, Bool.not_false, Bool.not_eq_false', Bool.not_eq_true', and_true, true_and, and_false, false_and, or_true, true_or, or_false, false_or, and_self, or_self, decide_eq_true_eq, decide_true, decide_false, decide_eq_false_iff_not, ite_not, if_true, if_false, eq_self]
  | true =>
    rw [hv] at g1
    cases hw : validU uses with
    | false =>
      rw [hw] at g2
      rw [if_neg (by simp [fair, hw])]
      rw [call_eq pr 27 _ _ Try.f27 fn_27 _ rfl _ ann_27 rfl]
      simp -implicitDefEqProofs only [g1, g2, go_sem, Nat.reduceAdd, Nat.reduceSub, Nat.reduceMul, Nat.reduceMod, Nat.reduceLT, Nat.reduceLeDiff, Nat.reduceEqDiff, Nat.reduceBEq, Nat.reduceDiv, Int.reduceLT, Int.reduceLE, Int.reduceToNat, Int.reduceNeg, Int.reduceEq, ↓reduceIte, reduceCtorEq, ↓reduceDIte, Bool.false_eq_true, Bool.true_eq_false, ne_eq, not_true_eq_false, not_false_eq_true, Bool.true_or, Bool.false_or, Bool.or_true, Bool.or_false, Bool.true_and, Bool.false_and, Bool.and_true, Bool.and_false, Bool.not_true, Bool.not_false, Bool.not_eq_false', Bool.not_eq_true', and_true, true_and, and_false, false_and, or_true, true_or, or_false, false_or, and_self, or_self, decide_eq_true_eq, decide_true, decide_false, decide_eq_false_iff_not, ite_not, if_true, if_false, eq_self]
    | true =>
      rw [hw] at g2
      have hf : fair hit miss uses = true := by simp [fair, hv, hw]
      obtain ⟨c, hc, g3⟩ := call_irun hit miss hv uses (by have := (fair_len hf).2; omega)
      rw [if_pos hf]
      rcases hc with rfl | rfl
      · rw [if_pos rfl] at g3
        left
        rw [call_eq pr 27 _ _ Try.f27 fn_27 _ rfl _ ann_27 rfl]
        simp -implicitDefEqProofs only [g1, g2, g3, go_sem, Nat.reduceAdd, Nat.reduceSub, Nat.reduceMul, Nat.reduceMod, Nat.reduceLT, Nat.reduceLeDiff, Nat.reduceEqDiff, Nat.reduceBEq, Nat.reduceDiv, Int.reduceLT, Int.reduceLE, Int.reduceToNat, Int.reduceNeg, Int.reduceEq, ↓reduceIte, reduceCtorEq, ↓reduceDIte, Bool.false_eq_true, Bool.true_eq_false, ne_eq, not_true_eq_false, not_false_eq_true, Bool.true_or, Bool.false_or, Bool.or_true, Bool.or_false, Bool.true_and, Bool.false_and, Bool.and_true, Bool.and_false, Bool.not_true, Bool.not_false, Bool.not_eq_false', Bool.not_eq_true', and_true, true_and, and_false, false_and, or_true, true_or, or_false, false_or, and_self, or_self, decide_eq_true_eq, decide_true, decide_false, decide_eq_false_iff_not, ite_not, if_true, if_false, eq_self]
      · rw [if_neg (by omega)] at g3
        right
        rw [call_eq pr 27 _ _ Try.f27 fn_27 _ rfl _ ann_27 rfl]
        simp -implicitDefEqProofs only [g1, g2, g3, go_sem, Nat.reduceAdd, Nat.reduceSub, Nat.reduceMul, Nat.reduceMod, Nat.reduceLT, Nat.reduceLeDiff, Nat.reduceEqDiff, Nat.reduceBEq, Nat.reduceDiv, Int.reduceLT, Int.reduceLE, Int.reduceToNat, Int.reduceNeg, Int.reduceEq, ↓reduceIte, reduceCtorEq, ↓reduceDIte, Bool.false_eq_true, Bool.true_eq_false, ne_eq, not_true_eq_false, not_false_eq_true, Bool.true_or, Bool.false_or, Bool.or_true, Bool.or_false, Bool.true_and, Bool.false_and, Bool.and_true, Bool.and_false, Bool.not_true, Bool.not_false, Bool.not_eq_false', Bool.not_eq_true', and_true, true_and, and_false, false_and, or_true, true_or, or_false, false_or, and_self, or_self, decide_eq_true_eq, decide_true, decide_false, decide_eq_false_iff_not, ite_not, if_true, if_false, eq_self]
theorem call_iev (hit : List (List Int)) (miss : List Int) (h1 : hit.length < 1000000000000000000) (h2 : miss.length < 1000000000000000000) (hc : ∀ l ∈ hit, l.length < 1000000000000000000) (uses : List Int) (hu : uses.length < 1000000000000000000) : if fair hit miss uses = true then
    ∃ c, (c = 1282 ∨ c = 1281) ∧ callOf pr 22 [.agg [LL hit, L miss], L uses] [] = some (.tuple [.os (.t c), B true], [(c, .arr true false (.int .i64) (runC hit miss (emptyC miss) uses).2.1)])
    else callOf pr 22 [.agg [LL hit, L miss], L uses] [] = some (.tuple [.nilS, B false], []) := by
  have g1 := call_vp hit miss h1 h2 hc
  have g2 := call_vu uses hu
  cases hv : validP hit miss with
  | false =>
    rw [hv] at g1
    rw [if_neg (by simp [fair, hv])]
    rw [call_eq pr 22 _ _ Try.f22 fn_22 _ rfl _ ann_22 rfl]
    simp -implicitDefEqProofs only [g1, go_sem, Nat.reduceAdd, Nat.reduceSub, Nat.reduceMul, Nat.reduceMod, Nat.reduceLT, Nat.reduceLeDiff, Nat.reduceEqDiff, Nat.reduceBEq, Nat.reduceDiv, Int.reduceLT, Int.reduceLE, Int.reduceToNat, Int.reduceNeg, Int.reduceEq, ↓reduceIte, reduceCtorEq, ↓reduceDIte, Bool.false_eq_true, Bool.true_eq_false, ne_eq, not_true_eq_false, not_false_eq_true, Bool.true_or, Bool.false_or, Bool.or_true, Bool.or_false, Bool.true_and, Bool.false_and, Bool.and_true, Bool.and_false, Bool.not_true, Bool.not_false, Bool.not_eq_false', Bool.not_eq_true', and_true, true_and, and_false, false_and, or_true, true_or, or_false, false_or, and_self, or_self, decide_eq_true_eq, decide_true, decide_false, decide_eq_false_iff_not, ite_not, if_true, if_false, eq_self]
  | true =>
    rw [hv] at g1
    cases hw : validU uses with
    | false =>
      rw [hw] at g2
      rw [if_neg (by simp [fair, hw])]
      rw [call_eq pr 22 _ _ Try.f22 fn_22 _ rfl _ ann_22 rfl]
      simp -implicitDefEqProofs only [g1, g2, go_sem, Nat.reduceAdd, Nat.reduceSub, Nat.reduceMul, Nat.reduceMod, Nat.reduceLT, Nat.reduceLeDiff, Nat.reduceEqDiff, Nat.reduceBEq, Nat.reduceDiv, Int.reduceLT, Int.reduceLE, Int.reduceToNat, Int.reduceNeg, Int.reduceEq, ↓reduceIte, reduceCtorEq, ↓reduceDIte, Bool.false_eq_true, Bool.true_eq_false, ne_eq, not_true_eq_false, not_false_eq_true, Bool.true_or, Bool.false_or, Bool.or_true, Bool.or_false, Bool.true_and, Bool.false_and, Bool.and_true, Bool.and_false, Bool.not_true, Bool.not_false, Bool.not_eq_false', Bool.not_eq_true', and_true, true_and, and_false, false_and, or_true, true_or, or_false, false_or, and_self, or_self, decide_eq_true_eq, decide_true, decide_false, decide_eq_false_iff_not, ite_not, if_true, if_false, eq_self]
    | true =>
      rw [hw] at g2
      have hf : fair hit miss uses = true := by simp [fair, hv, hw]
      obtain ⟨c, hc, g3⟩ := call_irun hit miss hv uses (by have := (fair_len hf).2; omega)
      rw [if_pos hf]
      rcases hc with rfl | rfl
      · rw [if_pos rfl] at g3
        refine ⟨1282, .inl rfl, ?_⟩
        rw [call_eq pr 22 _ _ Try.f22 fn_22 _ rfl _ ann_22 rfl]
        simp -implicitDefEqProofs only [g1, g2, g3, go_sem, Nat.reduceAdd, Nat.reduceSub, Nat.reduceMul, Nat.reduceMod, Nat.reduceLT, Nat.reduceLeDiff, Nat.reduceEqDiff, Nat.reduceBEq, Nat.reduceDiv, Int.reduceLT, Int.reduceLE, Int.reduceToNat, Int.reduceNeg, Int.reduceEq, ↓reduceIte, reduceCtorEq, ↓reduceDIte, Bool.false_eq_true, Bool.true_eq_false, ne_eq, not_true_eq_false, not_false_eq_true, Bool.true_or, Bool.false_or, Bool.or_true, Bool.or_false, Bool.true_and, Bool.false_and, Bool.and_true, Bool.and_false, Bool.not_true, Bool.not_false, Bool.not_eq_false', Bool.not_eq_true', and_true, true_and, and_false, false_and, or_true, true_or, or_false, false_or, and_self, or_self, decide_eq_true_eq, decide_true, decide_false, decide_eq_false_iff_not, ite_not, if_true, if_false, eq_self]
      · rw [if_neg (by omega)] at g3
        refine ⟨1281, .inr rfl, ?_⟩
        rw [call_eq pr 22 _ _ Try.f22 fn_22 _ rfl _ ann_22 rfl]
        simp -implicitDefEqProofs only [g1, g2, g3, go_sem, Nat.reduceAdd, Nat.reduceSub, Nat.reduceMul, Nat.reduceMod, Nat.reduceLT, Nat.reduceLeDiff, Nat.reduceEqDiff, Nat.reduceBEq, Nat.reduceDiv, Int.reduceLT, Int.reduceLE, Int.reduceToNat, Int.reduceNeg, Int.reduceEq, ↓reduceIte, reduceCtorEq, ↓reduceDIte, Bool.false_eq_true, Bool.true_eq_false, ne_eq, not_true_eq_false, not_false_eq_true, Bool.true_or, Bool.false_or, Bool.or_true, Bool.or_false, Bool.true_and, Bool.false_and, Bool.and_true, Bool.and_false, Bool.not_true, Bool.not_false, Bool.not_eq_false', Bool.not_eq_true', and_true, true_and, and_false, false_and, or_true, true_or, or_false, false_or, and_self, or_self, decide_eq_true_eq, decide_true, decide_false, decide_eq_false_iff_not, ite_not, if_true, if_false, eq_self]
/-- What a run replaces, from the second use on. -/
theorem sev2 (hit : List (List Int)) (miss : List Int) (hv : validP hit miss = true) : ∀ (suf pre now rs : List Int), now.length = miss.length → pre.length + suf.length < 1000000 → rs.length = pre.length →
    loopOf pr 21 0 ⟨[(1, L (pre ++ suf)), (2, .op 128 0), (6, .os (.t 1216)), (7, .os (.t 2496)), (8, I pre.length)], [(128, .box [LL hit, L miss]), (1216, .arr true false (.int .i64) rs), (2496, .arr true false (.int .i64) now)]⟩ = some (.exit 0, ⟨[(1, L (pre ++ suf)), (2, .op 128 0), (6, .os (.t 1216)), (7, .os (.t 2496)), (8, I ((pre.length + suf.length : Nat) : Int))], [(128, .box [LL hit, L miss]), (1216, .arr true false (.int .i64) (rs ++ (runC hit miss now suf).2.1)), (2496, .arr true false (.int .i64) (runC hit miss now suf).2.2)]⟩)
  | [], pre, now, rs, hn, hb, hh => by
    rw [loop_eq pr 21 0 _ Try.f21 fn_21 _ rfl _ ann_21 _ rfl]
    simp -implicitDefEqProofs only [Int.lt_irrefl, List.append_nil, Nat.add_zero, runC, go_sem, Nat.reduceAdd, Nat.reduceSub, Nat.reduceMul, Nat.reduceMod, Nat.reduceLT, Nat.reduceLeDiff, Nat.reduceEqDiff, Nat.reduceBEq, Nat.reduceDiv, Int.reduceLT, Int.reduceLE, Int.reduceToNat, Int.reduceNeg, Int.reduceEq, ↓reduceIte, reduceCtorEq, ↓reduceDIte, Bool.false_eq_true, Bool.true_eq_false, ne_eq, not_true_eq_false, not_false_eq_true, Bool.true_or, Bool.false_or, Bool.or_true, Bool.or_false, Bool.true_and, Bool.false_and, Bool.and_true, Bool.and_false, Bool.not_true, Bool.not_false, Bool.not_eq_false', Bool.not_eq_true', and_true, true_and, and_false, false_and, or_true, true_or, or_false, false_or, and_self, or_self, decide_eq_true_eq, decide_true, decide_false, decide_eq_false_iff_not, ite_not, if_true, if_false, eq_self]
  | a :: suf, pre, now, rs, hn, hb, hh => by
    simp only [List.length_cons] at hb
    obtain ⟨v1, v2, v3, v4, v5⟩ := validP_bound hv
    have hw : IntKind.i64.wrap ((pre.length : Int) + 1) = ((pre.length + 1 : Nat) : Int) := by rw [wrap_i] <;> omega
    have hw1 : IntKind.i64.wrap ((now.length : Int) - 1) = ((now.length - 1 : Nat) : Int) := by rw [wrap_i] <;> omega
    have hl1 : (((now.length - 1 : Nat) : Int) < (now.length : Int)) = True := tr (by omega)
    have hl2 : (now.length - 1 < now.length) = True := tr (by omega)
    have hs1 := call_sst hit miss now a hv hn
    have hroom : ((rs.length + 1) * 8 ≤ 140737488355328 ∧ rs.length ≤ 9223372036854775806) = True := tr (by omega)
    have ih := sev2 hit miss hv suf (pre ++ [a]) (stepC hit miss now a).1 (rs ++ [(stepC hit miss now a).2.1]) (stepC_length a hv hn) (by simp; omega) (by simp [hh])
    have e1 : (pre ++ [a]).length = pre.length + 1 := by simp
    have e2 : pre.length + 1 + suf.length = pre.length + (a :: suf).length := by simp; omega
    rw [app_one, app_one, e1, e2] at ih
    rw [loop_eq pr 21 0 _ Try.f21 fn_21 _ rfl _ ann_21 _ rfl]
    cases hq : ageOf a now with
    | some i =>
      have hq1 : stepC hit miss now a = (perm now (hit.getD i []), -1, true) := by simp only [stepC, hq]
      rw [hq1] at hs1 ih
      simp only at hs1 ih
      simp -implicitDefEqProofs only [getD_app, lt_app, ltn_app, zero_le_cast, Int.toNat_natCast, hs1, hw, hw1, hl1, hl2, hroom, runC, hq1, go_sem, Nat.reduceAdd, Nat.reduceSub, Nat.reduceMul, Nat.reduceMod, Nat.reduceLT, Nat.reduceLeDiff, Nat.reduceEqDiff, Nat.reduceBEq, Nat.reduceDiv, Int.reduceLT, Int.reduceLE, Int.reduceToNat, Int.reduceNeg, Int.reduceEq, ↓reduceIte, reduceCtorEq, ↓reduceDIte, Bool.false_eq_true, Bool.true_eq_false, ne_eq, not_true_eq_false, not_false_eq_true, Bool.true_or, Bool.false_or, Bool.or_true, Bool.or_false, Bool.true_and, Bool.false_and, Bool.and_true, Bool.and_false, Bool.not_true, Bool.not_false, Bool.not_eq_false', Bool.not_eq_true', and_true, true_and, and_false, false_and, or_true, true_or, or_false, false_or, and_self, or_self, decide_eq_true_eq, decide_true, decide_false, decide_eq_false_iff_not, ite_not, if_true, if_false, eq_self]
      exact ih
    | none =>
      have hq1 : stepC hit miss now a = (perm (now.set (now.length - 1) a) miss, now.getD (now.length - 1) 0, false) := by simp only [stepC, hq]
      rw [hq1] at hs1 ih
      simp only at hs1 ih
      simp -implicitDefEqProofs only [getD_app, lt_app, ltn_app, zero_le_cast, Int.toNat_natCast, hs1, hw, hw1, hl1, hl2, hroom, runC, hq1, go_sem, Nat.reduceAdd, Nat.reduceSub, Nat.reduceMul, Nat.reduceMod, Nat.reduceLT, Nat.reduceLeDiff, Nat.reduceEqDiff, Nat.reduceBEq, Nat.reduceDiv, Int.reduceLT, Int.reduceLE, Int.reduceToNat, Int.reduceNeg, Int.reduceEq, ↓reduceIte, reduceCtorEq, ↓reduceDIte, Bool.false_eq_true, Bool.true_eq_false, ne_eq, not_true_eq_false, not_false_eq_true, Bool.true_or, Bool.false_or, Bool.or_true, Bool.or_false, Bool.true_and, Bool.false_and, Bool.and_true, Bool.and_false, Bool.not_true, Bool.not_false, Bool.not_eq_false', Bool.not_eq_true', and_true, true_and, and_false, false_and, or_true, true_or, or_false, false_or, and_self, or_self, decide_eq_true_eq, decide_true, decide_false, decide_eq_false_iff_not, ite_not, if_true, if_false, eq_self]
      exact ih
theorem sev1 (hit : List (List Int)) (miss : List Int) (hv : validP hit miss = true) : ∀ (suf pre now rs : List Int), now.length = miss.length → pre.length + suf.length < 1000000 → rs.length = pre.length →
    loopOf pr 21 0 ⟨[(1, L (pre ++ suf)), (2, .op 128 0), (6, .os (.t 1216)), (7, .os (.t 1280)), (8, I pre.length)], [(128, .box [LL hit, L miss]), (1216, .arr true false (.int .i64) rs), (1280, .arr true false (.int .i64) now)]⟩ = some (.exit 0, ⟨[(1, L (pre ++ suf)), (2, .op 128 0), (6, .os (.t 1216)), (7, .os (.t (if suf = [] then 1280 else 2496))), (8, I ((pre.length + suf.length : Nat) : Int))], [(128, .box [LL hit, L miss]), (1216, .arr true false (.int .i64) (rs ++ (runC hit miss now suf).2.1)), ((if suf = [] then 1280 else 2496), .arr true false (.int .i64) (runC hit miss now suf).2.2)]⟩)
  | [], pre, now, rs, hn, hb, hh => by
    rw [loop_eq pr 21 0 _ Try.f21 fn_21 _ rfl _ ann_21 _ rfl]
    simp -implicitDefEqProofs only [Int.lt_irrefl, List.append_nil, Nat.add_zero, runC, go_sem, Nat.reduceAdd, Nat.reduceSub, Nat.reduceMul, Nat.reduceMod, Nat.reduceLT, Nat.reduceLeDiff, Nat.reduceEqDiff, Nat.reduceBEq, Nat.reduceDiv, Int.reduceLT, Int.reduceLE, Int.reduceToNat, Int.reduceNeg, Int.reduceEq, ↓reduceIte, reduceCtorEq, ↓reduceDIte, Bool.false_eq_true, Bool.true_eq_false, ne_eq, not_true_eq_false, not_false_eq_true, Bool.true_or, Bool.false_or, Bool.or_true, Bool.or_false, Bool.true_and, Bool.false_and, Bool.and_true, Bool.and_false, Bool.not_true, Bool.not_false, Bool.not_eq_false', Bool.not_eq_true', and_true, true_and, and_false, false_and, or_true, true_or, or_false, false_or, and_self, or_self, decide_eq_true_eq, decide_true, decide_false, decide_eq_false_iff_not, ite_not, if_true, if_false, eq_self]
  | a :: suf, pre, now, rs, hn, hb, hh => by
    simp only [List.length_cons] at hb
    obtain ⟨v1, v2, v3, v4, v5⟩ := validP_bound hv
    have hw : IntKind.i64.wrap ((pre.length : Int) + 1) = ((pre.length + 1 : Nat) : Int) := by rw [wrap_i] <;> omega
    have hw1 : IntKind.i64.wrap ((now.length : Int) - 1) = ((now.length - 1 : Nat) : Int) := by rw [wrap_i] <;> omega
    have hl1 : (((now.length - 1 : Nat) : Int) < (now.length : Int)) = True := tr (by omega)
    have hl2 : (now.length - 1 < now.length) = True := tr (by omega)
    have hs1 := call_sst hit miss now a hv hn
    have hroom : ((rs.length + 1) * 8 ≤ 140737488355328 ∧ rs.length ≤ 9223372036854775806) = True := tr (by omega)
    have ih := sev2 hit miss hv suf (pre ++ [a]) (stepC hit miss now a).1 (rs ++ [(stepC hit miss now a).2.1]) (stepC_length a hv hn) (by simp; omega) (by simp [hh])
    have e1 : (pre ++ [a]).length = pre.length + 1 := by simp
    have e2 : pre.length + 1 + suf.length = pre.length + (a :: suf).length := by simp; omega
    rw [app_one, app_one, e1, e2] at ih
    rw [loop_eq pr 21 0 _ Try.f21 fn_21 _ rfl _ ann_21 _ rfl]
    cases hq : ageOf a now with
    | some i =>
      have hq1 : stepC hit miss now a = (perm now (hit.getD i []), -1, true) := by simp only [stepC, hq]
      rw [hq1] at hs1 ih
      simp only at hs1 ih
      simp -implicitDefEqProofs only [getD_app, lt_app, ltn_app, zero_le_cast, Int.toNat_natCast, hs1, hw, hw1, hl1, hl2, hroom, runC, hq1, go_sem, Nat.reduceAdd, Nat.reduceSub, Nat.reduceMul, Nat.reduceMod, Nat.reduceLT, Nat.reduceLeDiff, Nat.reduceEqDiff, Nat.reduceBEq, Nat.reduceDiv, Int.reduceLT, Int.reduceLE, Int.reduceToNat, Int.reduceNeg, Int.reduceEq, ↓reduceIte, reduceCtorEq, ↓reduceDIte, Bool.false_eq_true, Bool.true_eq_false, ne_eq, not_true_eq_false, not_false_eq_true, Bool.true_or, Bool.false_or, Bool.or_true, Bool.or_false, Bool.true_and, Bool.false_and, Bool.and_true, Bool.and_false, Bool.not_true, Bool.not_false, Bool.not_eq_false', Bool.not_eq_true', and_true, true_and, and_false, false_and, or_true, true_or, or_false, false_or, and_self, or_self, decide_eq_true_eq, decide_true, decide_false, decide_eq_false_iff_not, ite_not, if_true, if_false, eq_self]
      exact ih
    | none =>
      have hq1 : stepC hit miss now a = (perm (now.set (now.length - 1) a) miss, now.getD (now.length - 1) 0, false) := by simp only [stepC, hq]
      rw [hq1] at hs1 ih
      simp only at hs1 ih
      simp -implicitDefEqProofs only [getD_app, lt_app, ltn_app, zero_le_cast, Int.toNat_natCast, hs1, hw, hw1, hl1, hl2, hroom, runC, hq1, go_sem, Nat.reduceAdd, Nat.reduceSub, Nat.reduceMul, Nat.reduceMod, Nat.reduceLT, Nat.reduceLeDiff, Nat.reduceEqDiff, Nat.reduceBEq, Nat.reduceDiv, Int.reduceLT, Int.reduceLE, Int.reduceToNat, Int.reduceNeg, Int.reduceEq, ↓reduceIte, reduceCtorEq, ↓reduceDIte, Bool.false_eq_true, Bool.true_eq_false, ne_eq, not_true_eq_false, not_false_eq_true, Bool.true_or, Bool.false_or, Bool.or_true, Bool.or_false, Bool.true_and, Bool.false_and, Bool.and_true, Bool.and_false, Bool.not_true, Bool.not_false, Bool.not_eq_false', Bool.not_eq_true', and_true, true_and, and_false, false_and, or_true, true_or, or_false, false_or, and_self, or_self, decide_eq_true_eq, decide_true, decide_false, decide_eq_false_iff_not, ite_not, if_true, if_false, eq_self]
      exact ih
theorem call_sev (hit : List (List Int)) (miss : List Int) (h1 : hit.length < 1000000000000000000) (h2 : miss.length < 1000000000000000000) (hc : ∀ l ∈ hit, l.length < 1000000000000000000) (uses : List Int) (hu : uses.length < 1000000000000000000) : callOf pr 21 [.agg [LL hit, L miss], L uses] [] = if fair hit miss uses = true then some (.tuple [.os (.t 1216), B true], [(1216, .arr true false (.int .i64) (runC hit miss (emptyC miss) uses).2.1)]) else some (.tuple [.nilS, B false], []) := by
  have g1 := call_is hit miss h1 h2 hc
  have g2 := call_su uses hu
  rw [call_eq pr 21 _ _ Try.f21 fn_21 _ rfl _ ann_21 rfl]
  cases hv : validP hit miss with
  | false =>
    rw [hv] at g1
    rw [if_neg (by simp [fair, hv])]
    simp -implicitDefEqProofs only [g1, go_sem, Nat.reduceAdd, Nat.reduceSub, Nat.reduceMul, Nat.reduceMod, Nat.reduceLT, Nat.reduceLeDiff, Nat.reduceEqDiff, Nat.reduceBEq, Nat.reduceDiv, Int.reduceLT, Int.reduceLE, Int.reduceToNat, Int.reduceNeg, Int.reduceEq, ↓reduceIte, reduceCtorEq, ↓reduceDIte, Bool.false_eq_true, Bool.true_eq_false, ne_eq, not_true_eq_false, not_false_eq_true, Bool.true_or, Bool.false_or, Bool.or_true, Bool.or_false, Bool.true_and, Bool.false_and, Bool.and_true, Bool.and_false, Bool.not_true, Bool.not_false, Bool.not_eq_false', Bool.not_eq_true', and_true, true_and, and_false, false_and, or_true, true_or, or_false, false_or, and_self, or_self, decide_eq_true_eq, decide_true, decide_false, decide_eq_false_iff_not, ite_not, if_true, if_false, eq_self]
  | true =>
    rw [hv] at g1
    cases hw : validU uses with
    | false =>
      rw [hw] at g2
      rw [if_neg (by simp [fair, hw])]
      simp -implicitDefEqProofs only [g1, g2, go_sem, Nat.reduceAdd, Nat.reduceSub, Nat.reduceMul, Nat.reduceMod, Nat.reduceLT, Nat.reduceLeDiff, Nat.reduceEqDiff, Nat.reduceBEq, Nat.reduceDiv, Int.reduceLT, Int.reduceLE, Int.reduceToNat, Int.reduceNeg, Int.reduceEq, ↓reduceIte, reduceCtorEq, ↓reduceDIte, Bool.false_eq_true, Bool.true_eq_false, ne_eq, not_true_eq_false, not_false_eq_true, Bool.true_or, Bool.false_or, Bool.or_true, Bool.or_false, Bool.true_and, Bool.false_and, Bool.and_true, Bool.and_false, Bool.not_true, Bool.not_false, Bool.not_eq_false', Bool.not_eq_true', and_true, true_and, and_false, false_and, or_true, true_or, or_false, false_or, and_self, or_self, decide_eq_true_eq, decide_true, decide_false, decide_eq_false_iff_not, ite_not, if_true, if_false, eq_self]
    | true =>
      rw [hw] at g2
      have hf : fair hit miss uses = true := by simp [fair, hv, hw]
      have hu6 := (fair_len hf).2
      obtain ⟨v1, v2, v3, v4, v5⟩ := validP_bound hv
      have g3 := call_sem hit miss (by omega)
      have h := sev1 hit miss hv uses [] (emptyC miss) [] (by simp [emptyC]) (by simp; omega) rfl
      simp only [List.nil_append, List.length_nil] at h
      have h : loopOf pr 21 0 ⟨[(1, L uses), (2, .op 128 0), (6, .os (.t 1216)), (7, .os (.t 1280)), (8, I 0)], [(128, .box [LL hit, L miss]), (1216, .arr true false (.int .i64) []), (1280, .arr true false (.int .i64) (emptyC miss))]⟩ = _ := h
      rw [if_pos hf]
      by_cases hz : uses = []
      · rw [if_pos hz] at h
        simp -implicitDefEqProofs only [g1, g2, g3, h, go_sem, Nat.reduceAdd, Nat.reduceSub, Nat.reduceMul, Nat.reduceMod, Nat.reduceLT, Nat.reduceLeDiff, Nat.reduceEqDiff, Nat.reduceBEq, Nat.reduceDiv, Int.reduceLT, Int.reduceLE, Int.reduceToNat, Int.reduceNeg, Int.reduceEq, ↓reduceIte, reduceCtorEq, ↓reduceDIte, Bool.false_eq_true, Bool.true_eq_false, ne_eq, not_true_eq_false, not_false_eq_true, Bool.true_or, Bool.false_or, Bool.or_true, Bool.or_false, Bool.true_and, Bool.false_and, Bool.and_true, Bool.and_false, Bool.not_true, Bool.not_false, Bool.not_eq_false', Bool.not_eq_true', and_true, true_and, and_false, false_and, or_true, true_or, or_false, false_or, and_self, or_self, decide_eq_true_eq, decide_true, decide_false, decide_eq_false_iff_not, ite_not, if_true, if_false, eq_self]
      · rw [if_neg hz] at h
        simp -implicitDefEqProofs only [g1, g2, g3, h, go_sem, Nat.reduceAdd, Nat.reduceSub, Nat.reduceMul, Nat.reduceMod, Nat.reduceLT, Nat.reduceLeDiff, Nat.reduceEqDiff, Nat.reduceBEq, Nat.reduceDiv, Int.reduceLT, Int.reduceLE, Int.reduceToNat, Int.reduceNeg, Int.reduceEq, ↓reduceIte, reduceCtorEq, ↓reduceDIte, Bool.false_eq_true, Bool.true_eq_false, ne_eq, not_true_eq_false, not_false_eq_true, Bool.true_or, Bool.false_or, Bool.or_true, Bool.or_false, Bool.true_and, Bool.false_and, Bool.and_true, Bool.and_false, Bool.not_true, Bool.not_false, Bool.not_eq_false', Bool.not_eq_true', and_true, true_and, and_false, false_and, or_true, true_or, or_false, false_or, and_self, or_self, decide_eq_true_eq, decide_true, decide_false, decide_eq_false_iff_not, ite_not, if_true, if_false, eq_self]
end Go.Proofs.Ytfooniikopekoaa.PI
