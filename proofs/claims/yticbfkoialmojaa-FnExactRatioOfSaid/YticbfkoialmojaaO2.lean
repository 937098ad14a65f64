/- Misses of a policy: out of P7. -/
import Derived.Test.YticbfkoialmojaaP6
namespace Go.Proofs.Yticbfkoialmojaa.PI
open Go Go.Q
set_option maxRecDepth 100000
set_option maxHeartbeats 4000000
set_option linter.unusedSimpArgs false
set_option linter.unusedVariables false
def bits01 (l : List Int) : Prop := ∀ x ∈ l, x = 0 ∨ x = 1
theorem sum01 : ∀ (l : List Int), bits01 l → 0 ≤ l.sum ∧ l.sum ≤ l.length
  | [], h => by simp
  | x :: l, h => by
    have h1 := sum01 l (fun y hy => h y (List.mem_cons_of_mem _ hy))
    have h2 := h x (List.mem_cons_self ..)
    simp only [List.sum_cons, List.length_cons]
    omega
theorem runC_bits (hit : List (List Int)) (miss : List Int) : ∀ (uses now : List Int), bits01 (runC hit miss now uses).1
  | [], now, x, hx => by simp [runC] at hx
  | a :: uses, now, x, hx => by
    simp only [runC, List.mem_cons] at hx
    rcases hx with hx | hx
    · split at hx <;> simp [hx]
    · exact runC_bits hit miss uses _ x hx
theorem loop_smi (n : Nat) (hb : n < 1000000) : ∀ (suf pre : List Int), bits01 (pre ++ suf) → pre.length + suf.length = n →
    loopOf pr 27 0 ⟨[(5, .os (.t 768)), (7, I ((n : Int) - pre.sum)), (8, I pre.length)], [(768, .arr true false (.int .i64) (pre ++ suf))]⟩ = some (.exit 0, ⟨[(5, .os (.t 768)), (7, I ((n : Int) - (pre ++ suf).sum)), (8, I n)], [(768, .arr true false (.int .i64) (pre ++ suf))]⟩)
  | [], pre, h, hl => by
    have : n = pre.length := by simp at hl; exact hl.symm
    subst this
    rw [loop_eq pr 27 0 _ Try.f27 fn_27 _ rfl _ ann_27 _ rfl]
    simp -implicitDefEqProofs only [Int.lt_irrefl, List.append_nil, Nat.add_zero, go_sem, Nat.reduceAdd, Nat.reduceSub, Nat.reduceMul, Nat.reduceMod, Nat.reduceLT, Nat.reduceLeDiff, Nat.reduceEqDiff, Nat.reduceBEq, Nat.reduceDiv, Int.reduceLT, Int.reduceLE, Int.reduceToNat, Int.reduceNeg, Int.reduceEq, ↓reduceIte, reduceCtorEq, ↓reduceDIte]
  | x :: suf, pre, h, hl => by
    simp only [List.length_cons] at hl
    have hx := h x (by simp)
    have hp := sum01 pre (fun y hy => h y (by simp [hy]))
    have hs := sum01 suf (fun y hy => h y (by simp [hy]))
    have hw : IntKind.i64.wrap ((pre.length : Int) + 1) = ((pre.length + 1 : Nat) : Int) := by rw [wrap_i] <;> omega
    have hw2 : IntKind.i64.wrap ((n : Int) - pre.sum - x) = (n : Int) - (pre ++ [x]).sum := by
      have e : (pre ++ [x]).sum = pre.sum + x := by simp
      rw [e, wrap_i] <;> omega
    have ih := loop_smi n hb suf (pre ++ [x]) (by rw [app_one]; exact h) (by simp; omega)
    have e1 : (pre ++ [x]).length = pre.length + 1 := by simp
    rw [app_one, e1] at ih
    rw [loop_eq pr 27 0 _ Try.f27 fn_27 _ rfl _ ann_27 _ rfl]
    simp -implicitDefEqProofs only [getD_app, lt_app, ltn_app, zero_le_cast, Int.toNat_natCast, hw, hw2, go_sem, Nat.reduceAdd, Nat.reduceSub, Nat.reduceMul, Nat.reduceMod, Nat.reduceLT, Nat.reduceLeDiff, Nat.reduceEqDiff, Nat.reduceBEq, Nat.reduceDiv, Int.reduceLT, Int.reduceLE, Int.reduceToNat, Int.reduceNeg, Int.reduceEq, ↓reduceIte, reduceCtorEq, ↓reduceDIte]
    exact ih
def missN (hs : List Int) : Int := hs.length - hs.sum
theorem call_smi (hit : List (List Int)) (miss : List Int) (hv : validP hit miss = true) (uses : List Int) (hb : uses.length < 1000000) : callOf pr 27 [.rp [LL hit, L miss], L uses] [] = some (I (missN (runC hit miss (emptyC miss) uses).1), []) := by
  obtain ⟨c, hc, h1⟩ := call_srun hit miss hv uses hb
  have hl := (runC_length hit miss uses (emptyC miss)).1
  have h := loop_smi uses.length hb (runC hit miss (emptyC miss) uses).1 [] (runC_bits hit miss uses (emptyC miss)) (by simp [hl])
  simp only [List.nil_append, List.length_nil, List.sum_nil, Int.sub_zero] at h
  have h : loopOf pr 27 0 ⟨[(5, .os (.t 768)), (7, I uses.length), (8, I 0)], [(768, .arr true false (.int .i64) (runC hit miss (emptyC miss) uses).1)]⟩ = _ := h
  have hk : missN (runC hit miss (emptyC miss) uses).1 = (uses.length : Int) - (runC hit miss (emptyC miss) uses).1.sum := by rw [missN, hl]
  rw [call_eq pr 27 _ _ Try.f27 fn_27 _ rfl _ ann_27 rfl, hk]
  rcases hc with rfl | rfl
  · simp -implicitDefEqProofs only [h1, hl, h, go_sem, Nat.reduceAdd, Nat.reduceSub, Nat.reduceMul, Nat.reduceMod, Nat.reduceLT, Nat.reduceLeDiff, Nat.reduceEqDiff, Nat.reduceBEq, Nat.reduceDiv, Int.reduceLT, Int.reduceLE, Int.reduceToNat, Int.reduceNeg, Int.reduceEq, ↓reduceIte, reduceCtorEq, ↓reduceDIte]
  · simp -implicitDefEqProofs only [h1, hl, h, go_sem, Nat.reduceAdd, Nat.reduceSub, Nat.reduceMul, Nat.reduceMod, Nat.reduceLT, Nat.reduceLeDiff, Nat.reduceEqDiff, Nat.reduceBEq, Nat.reduceDiv, Int.reduceLT, Int.reduceLE, Int.reduceToNat, Int.reduceNeg, Int.reduceEq, ↓reduceIte, reduceCtorEq, ↓reduceDIte]
theorem loop_imi (i : Nat) (hi : i = 896 ∨ i = 897) (n : Nat) (hb : n < 1000000) : ∀ (suf pre : List Int), bits01 (pre ++ suf) → pre.length + suf.length = n →
    loopOf pr 34 0 ⟨[(8, I ((pre.length : Int) - pre.sum)), (18, .os (.t i)), (19, I n), (20, I pre.length)], [(i, .arr true false (.int .i64) (pre ++ suf))]⟩ = some (.exit 0, ⟨[(8, I ((n : Int) - (pre ++ suf).sum)), (18, .os (.t i)), (19, I n), (20, I n)], [(i, .arr true false (.int .i64) (pre ++ suf))]⟩)
  | [], pre, h, hl => by
    have : n = pre.length := by simp at hl; exact hl.symm
    subst this
    rw [loop_eq pr 34 0 _ Try.f34 fn_34 _ rfl _ ann_34 _ rfl]
    rcases hi with rfl | rfl
    · simp -implicitDefEqProofs only [Int.lt_irrefl, List.append_nil, Nat.add_zero, go_sem, Nat.reduceAdd, Nat.reduceSub, Nat.reduceMul, Nat.reduceMod, Nat.reduceLT, Nat.reduceLeDiff, Nat.reduceEqDiff, Nat.reduceBEq, Nat.reduceDiv, Int.reduceLT, Int.reduceLE, Int.reduceToNat, Int.reduceNeg, Int.reduceEq, ↓reduceIte, reduceCtorEq, ↓reduceDIte]
    · simp -implicitDefEqProofs only [Int.lt_irrefl, List.append_nil, Nat.add_zero, go_sem, Nat.reduceAdd, Nat.reduceSub, Nat.reduceMul, Nat.reduceMod, Nat.reduceLT, Nat.reduceLeDiff, Nat.reduceEqDiff, Nat.reduceBEq, Nat.reduceDiv, Int.reduceLT, Int.reduceLE, Int.reduceToNat, Int.reduceNeg, Int.reduceEq, ↓reduceIte, reduceCtorEq, ↓reduceDIte]
  | x :: suf, pre, h, hl => by
    simp only [List.length_cons] at hl
    have hx := h x (by simp)
    have hp := sum01 pre (fun y hy => h y (by simp [hy]))
    have hlt : ((pre.length : Int) < (n : Int)) = True := tr (by omega)
    have hw : IntKind.i64.wrap ((pre.length : Int) + 1) = ((pre.length + 1 : Nat) : Int) := by rw [wrap_i] <;> omega
    have hw1 : IntKind.i64.wrap (1 - x) = 1 - x := by rw [wrap_i] <;> omega
    have hw2 : IntKind.i64.wrap ((pre.length : Int) - pre.sum + (1 - x)) = ((pre.length + 1 : Nat) : Int) - (pre ++ [x]).sum := by
      have e : (pre ++ [x]).sum = pre.sum + x := by simp
      rw [e, wrap_i] <;> omega
    have ih := loop_imi i hi n hb suf (pre ++ [x]) (by rw [app_one]; exact h) (by simp; omega)
    have e1 : (pre ++ [x]).length = pre.length + 1 := by simp
    rw [app_one, e1] at ih
    rw [loop_eq pr 34 0 _ Try.f34 fn_34 _ rfl _ ann_34 _ rfl]
    rcases hi with rfl | rfl
    · simp -implicitDefEqProofs only [hlt, getD_app, lt_app, ltn_app, zero_le_cast, Int.toNat_natCast, hw, hw1, hw2, go_sem, Nat.reduceAdd, Nat.reduceSub, Nat.reduceMul, Nat.reduceMod, Nat.reduceLT, Nat.reduceLeDiff, Nat.reduceEqDiff, Nat.reduceBEq, Nat.reduceDiv, Int.reduceLT, Int.reduceLE, Int.reduceToNat, Int.reduceNeg, Int.reduceEq, ↓reduceIte, reduceCtorEq, ↓reduceDIte]
      exact ih
    · simp -implicitDefEqProofs only [hlt, getD_app, lt_app, ltn_app, zero_le_cast, Int.toNat_natCast, hw, hw1, hw2, go_sem, Nat.reduceAdd, Nat.reduceSub, Nat.reduceMul, Nat.reduceMod, Nat.reduceLT, Nat.reduceLeDiff, Nat.reduceEqDiff, Nat.reduceBEq, Nat.reduceDiv, Int.reduceLT, Int.reduceLE, Int.reduceToNat, Int.reduceNeg, Int.reduceEq, ↓reduceIte, reduceCtorEq, ↓reduceDIte]
      exact ih
theorem call_imi (hit : List (List Int)) (miss : List Int) (hv : validP hit miss = true) (uses : List Int) (hb : uses.length < 1000000) : callOf pr 34 [.agg [LL hit, L miss], L uses] [] = some (I (missN (runC hit miss (emptyC miss) uses).1), []) := by
  obtain ⟨c, hc, h1⟩ := call_irun hit miss hv uses hb
  have hl := (runC_length hit miss uses (emptyC miss)).1
  have h := fun (i : Nat) (hi : i = 896 ∨ i = 897) => loop_imi i hi uses.length hb (runC hit miss (emptyC miss) uses).1 [] (runC_bits hit miss uses (emptyC miss)) (by simp [hl])
  simp only [List.nil_append, List.length_nil, List.sum_nil, Int.sub_zero] at h
  have h : ∀ (i : Nat) (hi : i = 896 ∨ i = 897), loopOf pr 34 0 ⟨[(8, I 0), (18, .os (.t i)), (19, I uses.length), (20, I 0)], [(i, .arr true false (.int .i64) (runC hit miss (emptyC miss) uses).1)]⟩ = some (.exit 0, ⟨[(8, I ((uses.length : Int) - (runC hit miss (emptyC miss) uses).1.sum)), (18, .os (.t i)), (19, I uses.length), (20, I uses.length)], [(i, .arr true false (.int .i64) (runC hit miss (emptyC miss) uses).1)]⟩) := h
  have hk : missN (runC hit miss (emptyC miss) uses).1 = (uses.length : Int) - (runC hit miss (emptyC miss) uses).1.sum := by rw [missN, hl]
  rw [call_eq pr 34 _ _ Try.f34 fn_34 _ rfl _ ann_34 rfl, hk]
  rcases hc with rfl | rfl
  · rw [if_pos rfl] at h1
    have h := h 897 (.inr rfl)
    simp -implicitDefEqProofs only [h1, hl, h, go_sem, Nat.reduceAdd, Nat.reduceSub, Nat.reduceMul, Nat.reduceMod, Nat.reduceLT, Nat.reduceLeDiff, Nat.reduceEqDiff, Nat.reduceBEq, Nat.reduceDiv, Int.reduceLT, Int.reduceLE, Int.reduceToNat, Int.reduceNeg, Int.reduceEq, ↓reduceIte, reduceCtorEq, ↓reduceDIte]
  · rw [if_neg (by omega)] at h1
    have h := h 896 (.inl rfl)
    simp -implicitDefEqProofs only [h1, hl, h, go_sem, Nat.reduceAdd, Nat.reduceSub, Nat.reduceMul, Nat.reduceMod, Nat.reduceLT, Nat.reduceLeDiff, Nat.reduceEqDiff, Nat.reduceBEq, Nat.reduceDiv, Int.reduceLT, Int.reduceLE, Int.reduceToNat, Int.reduceNeg, Int.reduceEq, ↓reduceIte, reduceCtorEq, ↓reduceDIte]
def fair (hit : List (List Int)) (miss uses : List Int) : Bool := validP hit miss && validU uses
theorem fair_len {hit : List (List Int)} {miss uses : List Int} (h : fair hit miss uses = true) : validP hit miss = true ∧ uses.length ≤ 60 := by
  simp only [fair, validU, Bool.and_eq_true, decide_eq_true_eq] at h
  exact ⟨h.1, h.2.2⟩

theorem copyIn_tail {α : Type} (xs ys : List α) (z : α) : copyIn (xs ++ ys) (List.replicate ((xs ++ ys).length - xs.length) z) xs.length ((xs ++ ys).length - xs.length) = xs ++ List.replicate ys.length z := by
  have h : (xs ++ ys).length - xs.length = ys.length := by simp
  unfold copyIn
  rw [h, List.take_left, List.take_of_length_le (by simp)]
  have : (xs ++ ys).drop (xs.length + (List.replicate ys.length z).length) = [] := by
    rw [List.drop_eq_nil_iff]; simp
  rw [this, List.append_nil]
/-- Numbers that differ from those before them. -/
def pushC : Int → List Int → List Int
  | _, [] => []
  | c, e :: r => if e = c then pushC e r else e :: pushC e r
def comp : List Int → List Int
  | [] => []
  | x :: l => x :: pushC x l
theorem pushC_length : ∀ (c : Int) (l : List Int), (pushC c l).length ≤ l.length
  | _, [] => Nat.le_refl _
  | c, e :: r => by
    have := pushC_length e r
    simp only [pushC]
    split <;> simp only [List.length_cons] <;> omega
/-- The second loop: what is kept, what lies between, the last one looked at, the rest. -/
theorem loop_co1 (K M : Nat) : ∀ (rest out mid : List Int) (c : Int), 1 ≤ K → out.length + mid.length + 1 + rest.length = K + M → K + M < 1000000 → K ≤ out.length + mid.length →
    ∃ tl : List Int, tl.length = K + M - (out ++ pushC c rest).length ∧ loopOf pr 78 1 ⟨[(0, .os (.t 1000000)), (3, I out.length), (4, .sub (.t 1000000) K M), (5, I ((out.length + mid.length + 1 - K : Nat) : Int))], [(1000000, .arr false false (.int .i64) (out ++ mid ++ c :: rest))]⟩ = some (.exit 2, ⟨[(0, .os (.t 1000000)), (3, I (out ++ pushC c rest).length), (4, .sub (.t 1000000) K M), (5, I M)], [(1000000, .arr false false (.int .i64) (out ++ pushC c rest ++ tl))]⟩)
  | [], out, mid, c, hK, hl, hb, hle => by
    refine ⟨mid ++ [c], by simp [pushC]; simp at hl; omega, ?_⟩
    have he : out.length + mid.length + 1 - K = M := by simp at hl; omega
    rw [he, loop_eq pr 78 1 _ Try.f78 fn_78 _ rfl _ ann_78 _ rfl]
    simp -implicitDefEqProofs only [Int.lt_irrefl, pushC, List.append_nil, go_sem, Nat.reduceAdd, Nat.reduceSub, Nat.reduceMul, Nat.reduceMod, Nat.reduceLT, Nat.reduceLeDiff, Nat.reduceEqDiff, Nat.reduceBEq, Nat.reduceDiv, Int.reduceLT, Int.reduceLE, Int.reduceToNat, Int.reduceNeg, Int.reduceEq, ↓reduceIte, reduceCtorEq, ↓reduceDIte]
    simp
  | e :: rest, out, mid, c, hK, hl, hb, hle => by
    simp only [List.length_cons] at hl
    have hlt : ((((out.length + mid.length + 1 - K : Nat)) : Int) < (M : Int)) = True := tr (by omega)
    have g0 : (0 ≤ (((out.length + mid.length + 1 - K : Nat)) : Int)) = True := tr (by omega)
    have hw1 : IntKind.i64.wrap (((out.length + mid.length + 1 - K : Nat) : Int) - 1) = ((out.length + mid.length - K : Nat) : Int) := by rw [wrap_i] <;> omega
    have g1 : (0 ≤ ((out.length + mid.length - K : Nat) : Int)) = True := tr (by omega)
    have g2 : (((out.length + mid.length - K : Nat) : Int) < (M : Int)) = True := tr (by omega)
    have i1 : K + (out.length + mid.length + 1 - K) = out.length + mid.length + 1 := by omega
    have i2 : K + (out.length + mid.length - K) = out.length + mid.length := by omega
    have v1 : (out ++ mid ++ c :: e :: rest).getD (K + (out.length + mid.length + 1 - K)) 0 = e := by
      rw [i1, show out ++ mid ++ c :: e :: rest = (out ++ mid ++ [c]) ++ e :: rest from by simp, show out.length + mid.length + 1 = (out ++ mid ++ [c]).length from by simp only [List.length_append, List.length_cons, List.length_nil]]
      exact getD_app _ _ _ _
    have v2 : (out ++ mid ++ c :: e :: rest).getD (K + (out.length + mid.length - K)) 0 = c := by
      rw [i2, show out.length + mid.length = (out ++ mid).length from by simp]
      exact getD_app _ _ _ _
    have q1 : (K + (out.length + mid.length + 1 - K) < (out ++ mid ++ c :: e :: rest).length) = True := tr (by simp; omega)
    have q2 : (K + (out.length + mid.length - K) < (out ++ mid ++ c :: e :: rest).length) = True := tr (by simp; omega)
    have hw2 : IntKind.i64.wrap (((out.length + mid.length + 1 - K : Nat) : Int) + 1) = ((out.length + mid.length + 1 + 1 - K : Nat) : Int) := by rw [wrap_i] <;> omega
    rw [loop_eq pr 78 1 _ Try.f78 fn_78 _ rfl _ ann_78 _ rfl]
    by_cases hec : e = c
    · have hp : pushC c (e :: rest) = pushC e rest := by simp [pushC, hec]
      obtain ⟨tl, h1, h2⟩ := loop_co1 K M rest out (mid ++ [c]) e hK (by simp; omega) hb (by simp; omega)
      have e1 : out ++ (mid ++ [c]) ++ e :: rest = out ++ mid ++ c :: e :: rest := by simp
      have e2 : out.length + (mid ++ [c]).length + 1 - K = out.length + mid.length + 1 + 1 - K := by simp; omega
      rw [e1, e2] at h2
      rw [hp]
      refine ⟨tl, h1, ?_⟩
      simp -implicitDefEqProofs only [hlt, g0, g1, g2, hw1, hw2, Int.toNat_natCast, v1, v2, q1, q2, zero_le_cast, tr hec, go_sem, Nat.reduceAdd, Nat.reduceSub, Nat.reduceMul, Nat.reduceMod, Nat.reduceLT, Nat.reduceLeDiff, Nat.reduceEqDiff, Nat.reduceBEq, Nat.reduceDiv, Int.reduceLT, Int.reduceLE, Int.reduceToNat, Int.reduceNeg, Int.reduceEq, ↓reduceIte, reduceCtorEq, ↓reduceDIte]
      exact h2
    · have hp : pushC c (e :: rest) = e :: pushC e rest := by simp [pushC, hec]
      have hw3 : IntKind.i64.wrap ((out.length : Int) + 1) = ((out.length + 1 : Nat) : Int) := by rw [wrap_i] <;> omega
      have q3 : ((out.length : Int) < ((out ++ mid ++ c :: e :: rest).length : Int)) = True := tr (by simp; omega)
      have q4 : (out.length < (out ++ mid ++ c :: e :: rest).length) = True := tr (by simp; omega)
      obtain ⟨m0, mt, hm⟩ : ∃ m0 mt, mid ++ [c] = m0 :: mt := by cases mid with | nil => exact ⟨c, [], rfl⟩ | cons m0 mt => exact ⟨m0, mt ++ [c], rfl⟩
      have hml : mt.length = mid.length := by
        have := congrArg List.length hm
        simp at this; omega
      have hset : (out ++ mid ++ c :: e :: rest).set out.length e = (out ++ [e]) ++ mt ++ e :: rest := by
        rw [show out ++ mid ++ c :: e :: rest = out ++ ((mid ++ [c]) ++ e :: rest) from by simp, hm]
        simp
      obtain ⟨tl, h1, h2⟩ := loop_co1 K M rest (out ++ [e]) mt e hK (by simp; omega) hb (by simp; omega)
      have e0 : (out ++ [e]) ++ pushC e rest = out ++ e :: pushC e rest := by simp
      have e1 : (out ++ [e]).length = out.length + 1 := by simp
      have e2 : out.length + 1 + mt.length + 1 - K = out.length + mid.length + 1 + 1 - K := by omega
      rw [e0] at h1 h2
      rw [e1, e2] at h2
      rw [hp]
      refine ⟨tl, h1, ?_⟩
      simp -implicitDefEqProofs only [hlt, g0, g1, g2, hw1, hw2, Int.toNat_natCast, v1, v2, q1, q2, zero_le_cast, fa hec, hw3, q3, q4, hset, go_sem, Nat.reduceAdd, Nat.reduceSub, Nat.reduceMul, Nat.reduceMod, Nat.reduceLT, Nat.reduceLeDiff, Nat.reduceEqDiff, Nat.reduceBEq, Nat.reduceDiv, Int.reduceLT, Int.reduceLE, Int.reduceToNat, Int.reduceNeg, Int.reduceEq, ↓reduceIte, reduceCtorEq, ↓reduceDIte]
      exact h2
/-- No two neighbours are the same. -/
def incr : Int → List Int → Bool
  | _, [] => true
  | c, e :: r => decide (e ≠ c) && incr e r
theorem pushC_incr : ∀ {c : Int} {l : List Int}, incr c l = true → pushC c l = l
  | _, [], _ => rfl
  | c, e :: r, h => by
    simp only [incr, Bool.and_eq_true, decide_eq_true_eq] at h
    simp only [pushC, if_neg h.1, pushC_incr h.2]
theorem pushC_less : ∀ {c : Int} {l : List Int}, incr c l = false → (pushC c l).length < l.length
  | _, [], h => by simp [incr] at h
  | c, e :: r, h => by
    simp only [pushC]
    by_cases hec : e = c
    · rw [if_pos hec]
      have := pushC_length e r
      simp only [List.length_cons]; omega
    · rw [if_neg hec]
      have h' : incr e r = false := by simpa [incr, hec] using h
      have := pushC_less h'
      simp only [List.length_cons]; omega
/-- The first loop: it looks for the first two that are the same. -/
theorem loop_co0 : ∀ (suf pre : List Int) (a : Int), pre.length + 1 + suf.length < 1000000 →
    (incr a suf = true → loopOf pr 78 0 ⟨[(0, .os (.t 1000000)), (3, I ((pre.length + 1 : Nat) : Int))], [(1000000, .arr false false (.int .i64) (pre ++ a :: suf))]⟩ = some (.exit 0, ⟨[(0, .os (.t 1000000)), (3, I ((pre.length + 1 + suf.length : Nat) : Int))], [(1000000, .arr false false (.int .i64) (pre ++ a :: suf))]⟩)) ∧
    (incr a suf = false → loopOf pr 78 0 ⟨[(0, .os (.t 1000000)), (3, I ((pre.length + 1 : Nat) : Int))], [(1000000, .arr false false (.int .i64) (pre ++ a :: suf))]⟩ = some (.ret, ⟨[(2, .sub (.t 1000000) 0 (pre ++ a :: pushC a suf).length)], [(1000000, .arr false false (.int .i64) ((pre ++ a :: pushC a suf) ++ List.replicate (pre.length + 1 + suf.length - (pre ++ a :: pushC a suf).length) 0))]⟩))
  | [], pre, a, hb => by
    refine ⟨fun _ => ?_, fun h => by simp [incr] at h⟩
    rw [loop_eq pr 78 0 _ Try.f78 fn_78 _ rfl _ ann_78 _ rfl]
    have hl : ((((pre.length + 1 : Nat)) : Int) < ((pre ++ [a]).length : Int)) = False := fa (by simp)
    simp -implicitDefEqProofs only [hl, List.length_nil, Nat.add_zero, go_sem, Nat.reduceAdd, Nat.reduceSub, Nat.reduceMul, Nat.reduceMod, Nat.reduceLT, Nat.reduceLeDiff, Nat.reduceEqDiff, Nat.reduceBEq, Nat.reduceDiv, Int.reduceLT, Int.reduceLE, Int.reduceToNat, Int.reduceNeg, Int.reduceEq, ↓reduceIte, reduceCtorEq, ↓reduceDIte]
  | b :: suf, pre, a, hb => by
    simp only [List.length_cons] at hb ⊢
    have hlt : ((((pre.length + 1 : Nat)) : Int) < ((pre ++ a :: b :: suf).length : Int)) = True := tr (by simp; omega)
    have g0 : (0 ≤ (((pre.length + 1 : Nat)) : Int)) = True := tr (by omega)
    have g1 : (0 ≤ ((pre.length : Nat) : Int)) = True := tr (by omega)
    have g2 : (((pre.length : Nat) : Int) < ((pre ++ a :: b :: suf).length : Int)) = True := tr (by simp; omega)
    have hw1 : IntKind.i64.wrap (((pre.length + 1 : Nat) : Int) - 1) = ((pre.length : Nat) : Int) := by rw [wrap_i] <;> omega
    have hw2 : IntKind.i64.wrap (((pre.length + 1 : Nat) : Int) + 1) = ((pre.length + 1 + 1 : Nat) : Int) := by rw [wrap_i] <;> omega
    have v1 : (pre ++ a :: b :: suf).getD (pre.length + 1) 0 = b := by
      rw [show pre ++ a :: b :: suf = (pre ++ [a]) ++ b :: suf from by simp, show pre.length + 1 = (pre ++ [a]).length from by simp]
      exact getD_app _ _ _ _
    have v2 : (pre ++ a :: b :: suf).getD pre.length 0 = a := getD_app _ _ _ _
    have q1 : (pre.length + 1 < (pre ++ a :: b :: suf).length) = True := tr (by simp)
    have q2 : (pre.length < (pre ++ a :: b :: suf).length) = True := tr (by simp)
    by_cases hba : b = a
    · refine ⟨fun h => by simp [incr, hba] at h, fun _ => ?_⟩
      have hp : pushC a (b :: suf) = pushC b suf := by simp [pushC, hba]
      have hlen : (pre ++ a :: b :: suf).length = pre.length + 1 + (suf.length + 1) := by simp; omega
      obtain ⟨tl, t1, t2⟩ := loop_co1 (pre.length + 1) (suf.length + 1) suf (pre ++ [a]) [] b (by omega) (by simp; omega) (by omega) (by simp)
      simp only [List.append_nil, List.length_nil, Nat.add_zero] at t2
      have e1 : (pre ++ [a]) ++ b :: suf = pre ++ a :: b :: suf := by simp
      have e2 : (pre ++ [a]).length = pre.length + 1 := by simp
      have e3 : (pre ++ [a]) ++ pushC b suf = pre ++ a :: pushC b suf := by simp
      have e4 : pre.length + 1 + 1 - (pre.length + 1) = 1 := by omega
      rw [e3] at t1 t2
      rw [e1, e2, e4] at t2
      have hle := pushC_length b suf
      have hcl : (pre ++ a :: pushC b suf).length ≤ pre.length + 1 + suf.length := by simp; omega
      rw [hp]
      generalize hcc : pre ++ a :: pushC b suf = cc at t1 t2 hcl ⊢
      have t2 : loopOf pr 78 1 ⟨[(0, .os (.t 1000000)), (3, I ((pre.length + 1 : Nat) : Int)), (4, .sub (.t 1000000) (pre.length + 1) (suf.length + 1)), (5, I 1)], [(1000000, .arr false false (.int .i64) (pre ++ a :: b :: suf))]⟩ = _ := t2
      have h5 : (pre ++ a :: b :: suf).length - (pre.length + 1) = suf.length + 1 := by rw [hlen]; omega
      have h6 : ((((pre.length + 1 : Nat)) : Int) ≤ ((pre ++ a :: b :: suf).length : Int)) = True := tr (by rw [hlen]; omega)
      have h7 : ((cc.length : Int) ≤ ((cc ++ tl).length : Int)) = True := tr (by rw [List.length_append]; omega)
      have h8 := copyIn_tail cc tl (0 : Int)
      have h9 : tl.length = pre.length + 1 + (suf.length + 1) - cc.length := t1
      rw [loop_eq pr 78 0 _ Try.f78 fn_78 _ rfl _ ann_78 _ rfl]
      have h10 : ((cc.length : Int) ≤ ((cc ++ List.replicate (pre.length + 1 + (suf.length + 1) - cc.length) (0 : Int)).length : Int)) = True := tr (by rw [List.length_append]; omega)
      simp -implicitDefEqProofs only [hlt, g0, g1, g2, hw1, hw2, Int.toNat_natCast, v1, v2, q1, q2, zero_le_cast, tr hba, h5, h6, t2, h7, h8, h9, h10, Nat.sub_zero, Int.le_refl, go_sem, Nat.reduceAdd, Nat.reduceSub, Nat.reduceMul, Nat.reduceMod, Nat.reduceLT, Nat.reduceLeDiff, Nat.reduceEqDiff, Nat.reduceBEq, Nat.reduceDiv, Int.reduceLT, Int.reduceLE, Int.reduceToNat, Int.reduceNeg, Int.reduceEq, ↓reduceIte, reduceCtorEq, ↓reduceDIte]
    · have e1 : (pre ++ [a]) ++ b :: suf = pre ++ a :: b :: suf := by simp
      have e2 : (pre ++ [a]).length = pre.length + 1 := by simp
      have e3 : pre.length + 1 + 1 + suf.length = pre.length + 1 + (suf.length + 1) := by omega
      have hp : pushC a (b :: suf) = b :: pushC b suf := by simp [pushC, hba]
      have e4 : (pre ++ [a]) ++ b :: pushC b suf = pre ++ a :: b :: pushC b suf := by simp
      have hi : incr a (b :: suf) = incr b suf := by simp [incr, hba]
      obtain ⟨i1, i2⟩ := loop_co0 suf (pre ++ [a]) b (by simp; omega)
      rw [e1, e2, e3] at i1 i2
      rw [e4] at i2
      rw [hi, hp]
      refine ⟨fun h => ?_, fun h => ?_⟩
      · have ih := i1 h
        rw [loop_eq pr 78 0 _ Try.f78 fn_78 _ rfl _ ann_78 _ rfl]
        simp -implicitDefEqProofs only [hlt, g0, g1, g2, hw1, hw2, Int.toNat_natCast, v1, v2, q1, q2, zero_le_cast, fa hba, go_sem, Nat.reduceAdd, Nat.reduceSub, Nat.reduceMul, Nat.reduceMod, Nat.reduceLT, Nat.reduceLeDiff, Nat.reduceEqDiff, Nat.reduceBEq, Nat.reduceDiv, Int.reduceLT, Int.reduceLE, Int.reduceToNat, Int.reduceNeg, Int.reduceEq, ↓reduceIte, reduceCtorEq, ↓reduceDIte]
        exact ih
      · have ih := i2 h
        rw [loop_eq pr 78 0 _ Try.f78 fn_78 _ rfl _ ann_78 _ rfl]
        simp -implicitDefEqProofs only [hlt, g0, g1, g2, hw1, hw2, Int.toNat_natCast, v1, v2, q1, q2, zero_le_cast, fa hba, go_sem, Nat.reduceAdd, Nat.reduceSub, Nat.reduceMul, Nat.reduceMod, Nat.reduceLT, Nat.reduceLeDiff, Nat.reduceEqDiff, Nat.reduceBEq, Nat.reduceDiv, Int.reduceLT, Int.reduceLE, Int.reduceToNat, Int.reduceNeg, Int.reduceEq, ↓reduceIte, reduceCtorEq, ↓reduceDIte]
        exact ih
theorem call_co (x : Int) (l : List Int) (hb : l.length + 1 < 1000000) : callOf pr 78 [.os (.t 1000000)] [(1000000, .arr false false (.int .i64) (x :: l))] = if incr x l = true then some (.os (.t 1000000), [(1000000, .arr false false (.int .i64) (x :: l))]) else some (.sub (.t 1000000) 0 (comp (x :: l)).length, [(1000000, .arr false false (.int .i64) (comp (x :: l) ++ List.replicate ((x :: l).length - (comp (x :: l)).length) 0))]) := by
  obtain ⟨i1, i2⟩ := loop_co0 l [] x (by simp; omega)
  simp only [List.nil_append, List.length_nil, Nat.zero_add] at i1 i2
  rw [call_eq pr 78 _ _ Try.f78 fn_78 _ rfl _ ann_78 rfl]
  cases l with
  | nil =>
    rw [if_pos (show incr x [] = true from rfl)]
    have h1 : (((1 : Nat) : Int) < 2) = True := tr (by omega)
    simp -implicitDefEqProofs only [h1, go_sem, Nat.reduceAdd, Nat.reduceSub, Nat.reduceMul, Nat.reduceMod, Nat.reduceLT, Nat.reduceLeDiff, Nat.reduceEqDiff, Nat.reduceBEq, Nat.reduceDiv, Int.reduceLT, Int.reduceLE, Int.reduceToNat, Int.reduceNeg, Int.reduceEq, ↓reduceIte, reduceCtorEq, ↓reduceDIte]
  | cons y l =>
    have hl : (((x :: y :: l).length : Int) < 2) = False := fa (by simp; omega)
    cases hi : incr x (y :: l) with
    | true =>
      have h : loopOf pr 78 0 ⟨[(0, .os (.t 1000000)), (3, I 1)], [(1000000, .arr false false (.int .i64) (x :: y :: l))]⟩ = _ := i1 hi
      rw [if_pos (show (true = true) from rfl)]
      simp only [List.length_cons] at hl
      simp -implicitDefEqProofs only [hl, h, go_sem, Nat.reduceAdd, Nat.reduceSub, Nat.reduceMul, Nat.reduceMod, Nat.reduceLT, Nat.reduceLeDiff, Nat.reduceEqDiff, Nat.reduceBEq, Nat.reduceDiv, Int.reduceLT, Int.reduceLE, Int.reduceToNat, Int.reduceNeg, Int.reduceEq, ↓reduceIte, reduceCtorEq, ↓reduceDIte]
    | false =>
      have h : loopOf pr 78 0 ⟨[(0, .os (.t 1000000)), (3, I 1)], [(1000000, .arr false false (.int .i64) (x :: y :: l))]⟩ = _ := i2 hi
      rw [if_neg (by simp)]
      simp only [List.length_cons] at hl
      have e : 1 + (y :: l).length = (x :: y :: l).length := by simp; omega
      rw [e] at h
      simp -implicitDefEqProofs only [hl, h, go_sem, Nat.reduceAdd, Nat.reduceSub, Nat.reduceMul, Nat.reduceMod, Nat.reduceLT, Nat.reduceLeDiff, Nat.reduceEqDiff, Nat.reduceBEq, Nat.reduceDiv, Int.reduceLT, Int.reduceLE, Int.reduceToNat, Int.reduceNeg, Int.reduceEq, ↓reduceIte, reduceCtorEq, ↓reduceDIte]
      rfl
theorem call_st (fr : List Int) (h0 : ¬ fr.length = 0) (hl : fr.length < 100000) : callOf pr 52 [L fr] [] = some (.os (.t 320), [(320, .arr true false (.int .i64) (comp (sortI fr)))]) := by
  have h := call_sorted fr h0 (by omega)
  have hs : (sortI fr).length = fr.length := sortI_length fr
  obtain ⟨x, l, hx⟩ : ∃ x l, sortI fr = x :: l := by
    cases hc : sortI fr with
    | nil => rw [hc] at hs; simp at hs; omega
    | cons x l => exact ⟨x, l, rfl⟩
  have h2 := call_co x l (by rw [hx] at hs; simp at hs; omega)
  rw [hx] at h
  rw [hx, call_eq pr 52 _ _ Try.f52 fn_52 _ rfl _ ann_52 rfl]
  cases hi : incr x l with
  | true =>
    rw [hi, if_pos rfl] at h2
    have hc : comp (x :: l) = x :: l := by simp only [comp, pushC_incr hi]
    rw [hc]
    simp -implicitDefEqProofs only [call_values, h, h2, go_sem, Nat.reduceAdd, Nat.reduceSub, Nat.reduceMul, Nat.reduceMod, Nat.reduceLT, Nat.reduceLeDiff, Nat.reduceEqDiff, Nat.reduceBEq, Nat.reduceDiv, Int.reduceLT, Int.reduceLE, Int.reduceToNat, Int.reduceNeg, Int.reduceEq, ↓reduceIte, reduceCtorEq, ↓reduceDIte]
  | false =>
    rw [hi, if_neg (by simp)] at h2
    have hlt := pushC_less hi
    have hcond : (0 + (comp (x :: l)).length ≤ (comp (x :: l) ++ List.replicate (l.length + 1 - (comp (x :: l)).length) (0 : Int)).length ∧ 0 < (comp (x :: l) ++ List.replicate (l.length + 1 - (comp (x :: l)).length) (0 : Int)).length) = True := tr (by
      rw [List.length_append]
      simp only [comp, List.length_cons]
      omega)
    simp -implicitDefEqProofs only [call_values, h, h2, hcond, List.take_left, go_sem, Nat.reduceAdd, Nat.reduceSub, Nat.reduceMul, Nat.reduceMod, Nat.reduceLT, Nat.reduceLeDiff, Nat.reduceEqDiff, Nat.reduceBEq, Nat.reduceDiv, Int.reduceLT, Int.reduceLE, Int.reduceToNat, Int.reduceNeg, Int.reduceEq, ↓reduceIte, reduceCtorEq, ↓reduceDIte]
/-- When an address is used next. -/
def waitN (uses : List Int) (a : Int) (from_ : Nat) : Int := match (uses.drop from_).findIdx? (fun x => decide (x = a)) with
  | some k => ((from_ + k : Nat) : Int)
  | none => 60
/-- The first one with the greatest wait: the one in hand, its index, the index of the next one. -/
def lastB (w : Int → Int) : Nat → Int → Nat → List Int → Nat
  | b, _, _, [] => b
  | b, m, k, y :: l => if w m < w y then lastB w k y (k + 1) l else lastB w b m (k + 1) l
def lastM (w : Int → Int) : Int → List Int → Int
  | m, [] => m
  | m, y :: l => if w m < w y then lastM w y l else lastM w m l
theorem lastB_M (w : Int → Int) (xs : List Int) : ∀ (l : List Int) (b : Nat) (m : Int) (k : Nat), xs[b]? = some m → xs.drop k = l → xs[lastB w b m k l]? = some (lastM w m l)
  | [], b, m, k, hb, _ => hb
  | y :: l, b, m, k, hb, hk => by
    have hy : xs[k]? = some y := by
      have := congrArg (·[0]?) hk
      simpa using this
    have hk' : xs.drop (k + 1) = l := by
      have := congrArg (·.drop 1) hk
      simpa using this
    unfold lastB lastM
    split
    · exact lastB_M w xs l k y (k + 1) hy hk'
    · exact lastB_M w xs l b m (k + 1) hb hk'
theorem lastB_lt (w : Int → Int) : ∀ (l : List Int) (b : Nat) (m : Int) (k n : Nat), b < n → k + l.length ≤ n → lastB w b m k l < n
  | [], b, m, k, n, hb, _ => hb
  | y :: l, b, m, k, n, hb, hk => by
    simp only [List.length_cons] at hk
    unfold lastB
    split
    · exact lastB_lt w l k y (k + 1) n (by omega) (by omega)
    · exact lastB_lt w l b m (k + 1) n hb (by omega)
/-- A number is put into an ascending list. -/
def putL : List Int → Int → List Int
  | [], a => [a]
  | x :: l, a => if x < a then x :: putL l a else if a < x then a :: x :: l else x :: l
theorem putL_perm : ∀ (l : List Int) (a : Int), a ∉ l → List.Perm (putL l a) (a :: l)
  | [], a, _ => List.Perm.refl _
  | x :: l, a, h => by
    have h1 : a ≠ x := fun e => h (by rw [e]; simp)
    have h2 : a ∉ l := fun e => h (by simp [e])
    unfold putL
    split
    · exact ((putL_perm l a h2).cons x).trans (List.Perm.swap a x l)
    · rw [if_pos (by omega)]
theorem putL_sorted : ∀ (l : List Int) (a : Int), l.Pairwise (· < ·) → (putL l a).Pairwise (· < ·)
  | [], a, _ => by simp [putL]
  | x :: l, a, h => by
    have h' := List.pairwise_cons.1 h
    unfold putL
    split
    · rename_i hxa
      rw [List.pairwise_cons]
      refine ⟨fun y hy => ?_, putL_sorted l a h'.2⟩
      by_cases ha : a ∈ l
      · have hmem : ∀ (l : List Int) (a y : Int), y ∈ putL l a → y = a ∨ y ∈ l := by
          intro l
          induction l with
          | nil => intro a y hy; simp [putL] at hy; exact .inl hy
          | cons z l ih =>
            intro a y hy
            unfold putL at hy
            split at hy
            · rcases List.mem_cons.1 hy with rfl | hy
              · right; simp
              · rcases ih a y hy with e | e
                · exact .inl e
                · right; simp [e]
            · split at hy
              · rcases List.mem_cons.1 hy with e | hy
                · exact .inl e
                · exact .inr hy
              · exact .inr hy
        rcases hmem l a y hy with rfl | hy
        · exact hxa
        · exact h'.1 y hy
      · rcases List.mem_cons.1 ((putL_perm l a ha).mem_iff.1 hy) with rfl | hy
        · exact hxa
        · exact h'.1 y hy
    · split
      · rename_i hax
        rw [List.pairwise_cons]
        refine ⟨fun y hy => ?_, h⟩
        rcases List.mem_cons.1 hy with rfl | hy
        · exact hax
        · have := h'.1 y hy; omega
      · exact h
/-- One use: what is kept, in order; whether it was a hit; what was replaced. -/
def stepB (uses : List Int) (w : Nat) (i : Nat) (now : List Int) (a : Int) : List Int × Bool × Int :=
  if now.contains a = true then (now, true, -1)
  else if now.length = w then
    let b := lastB (fun x => waitN uses x (i + 1)) 0 (now.getD 0 0) 1 (now.drop 1)
    (putL (now.eraseIdx b) a, false, now.getD b 0)
  else (putL now a, false, -1)
def runB (uses : List Int) (w : Nat) : Nat → List Int → List Int → List Bool
  | _, _, [] => []
  | i, now, a :: rest => (stepB uses w i now a).2.1 :: runB uses w (i + 1) (stepB uses w i now a).1 rest
theorem runB_length (uses : List Int) (w : Nat) : ∀ (rest : List Int) (i : Nat) (now : List Int), (runB uses w i now rest).length = rest.length
  | [], _, _ => rfl
  | a :: rest, i, now => by simp [runB, runB_length uses w rest]
/-- Misses. -/
def missB (hs : List Bool) : Nat := (hs.filter fun h => !h).length
theorem putL_length {l : List Int} {a : Int} (h : a ∉ l) : (putL l a).length = l.length + 1 := by
  rw [(putL_perm l a h).length_eq]; rfl
theorem stepB_ok (uses : List Int) {w : Nat} (hw : 1 ≤ w) (i : Nat) {now : List Int} (a : Int) (hs : now.Pairwise (· < ·)) (hl : now.length ≤ w) : (stepB uses w i now a).1.Pairwise (· < ·) ∧ (stepB uses w i now a).1.length ≤ w := by
  unfold stepB
  by_cases hc : now.contains a = true
  · rw [if_pos hc]; exact ⟨hs, hl⟩
  · rw [if_neg hc]
    have hn : a ∉ now := by simpa using hc
    by_cases hw2 : now.length = w
    · rw [if_pos hw2]
      have hb : lastB (fun x => waitN uses x (i + 1)) 0 (now.getD 0 0) 1 (now.drop 1) < now.length := lastB_lt _ _ _ _ _ _ (by omega) (by rw [List.length_drop]; omega)
      have hne : a ∉ now.eraseIdx (lastB (fun x => waitN uses x (i + 1)) 0 (now.getD 0 0) 1 (now.drop 1)) := fun h => hn (List.mem_of_mem_eraseIdx h)
      refine ⟨putL_sorted _ a (hs.sublist (List.eraseIdx_sublist _ _)), ?_⟩
      simp only
      rw [putL_length hne, List.length_eraseIdx, if_pos hb]
      omega
    · rw [if_neg hw2]
      exact ⟨putL_sorted _ a hs, by simp only; rw [putL_length hn]; omega⟩
/-- A sorted list is its own order. -/
theorem sortI_of_sorted {xs now : List Int} (h : List.Perm now xs) (hs : now.Pairwise (· < ·)) : sortI xs = now := by
  have hp : List.Perm (sortI xs) now := (sortI_perm xs).trans h.symm
  have h1 := sortI_le xs
  have h2 : now.Pairwise (· ≤ ·) := hs.imp fun {a b} h => by omega
  exact hp.eq_of_pairwise (fun a b _ _ h1 h2 => by omega) h1 h2
def nextI (uses : List Int) (a : Int) (k : Nat) : Int := match ageOf a (uses.drop k) with
  | some j => ((k + j : Nat) : Int)
  | none => -1
theorem waitN_eq (uses : List Int) (a : Int) (k : Nat) : waitN uses a k = if nextI uses a k < 0 then 60 else nextI uses a k := by
  unfold waitN nextI ageOf
  cases (uses.drop k).findIdx? (fun x => decide (x = a)) with
  | none => simp
  | some j => simp only; rw [if_neg (by omega)]
theorem nextI_lt {uses : List Int} {a : Int} {k : Nat} : -1 ≤ nextI uses a k ∧ nextI uses a k < uses.length := by
  unfold nextI
  cases h : ageOf a (uses.drop k) with
  | none => simp only; omega
  | some j =>
    have := ageOf_lt h
    simp only [List.length_drop] at this
    simp only; omega
theorem waitN_lt {uses : List Int} (hb : uses.length ≤ 60) {a : Int} {k : Nat} : 0 ≤ waitN uses a k ∧ waitN uses a k ≤ 60 := by
  have := nextI_lt (uses := uses) (a := a) (k := k)
  rw [waitN_eq]
  split <;> omega
theorem call_nx (uses : List Int) (a : Int) (k : Nat) (hk : k ≤ uses.length) (hb : uses.length < 1000000) : callOf pr 100 [L uses, I a, I k] [] = some (I (nextI uses a k), []) := by
  have h := call_idx a (uses.drop k) (by simp; omega)
  have h1 : ((k : Int) ≤ (uses.length : Int)) = True := tr (by omega)
  have hn := nextI_lt (uses := uses) (a := a) (k := k)
  rw [call_eq pr 100 _ _ Try.f100 fn_100 _ rfl _ ann_100 rfl]
  cases hg : ageOf a (uses.drop k) with
  | none =>
    have e1 : ageI a (uses.drop k) = -1 := by rw [ageI, hg]
    have e2 : nextI uses a k = -1 := by rw [nextI, hg]
    rw [e1] at h
    rw [e2]
    simp -implicitDefEqProofs only [h, h1, zero_le_cast, Int.toNat_natCast, go_sem, Nat.reduceAdd, Nat.reduceSub, Nat.reduceMul, Nat.reduceMod, Nat.reduceLT, Nat.reduceLeDiff, Nat.reduceEqDiff, Nat.reduceBEq, Nat.reduceDiv, Int.reduceLT, Int.reduceLE, Int.reduceToNat, Int.reduceNeg, Int.reduceEq, ↓reduceIte, reduceCtorEq, ↓reduceDIte]
  | some j =>
    have e1 : ageI a (uses.drop k) = (j : Int) := by rw [ageI, hg]
    have e2 : nextI uses a k = ((k + j : Nat) : Int) := by rw [nextI, hg]
    have e3 : ((j : Int) < 0) = False := fa (by omega)
    rw [e1] at h
    rw [e2] at hn ⊢
    have hw : IntKind.i64.wrap ((k : Int) + (j : Int)) = ((k + j : Nat) : Int) := by rw [wrap_i] <;> omega
    simp -implicitDefEqProofs only [h, h1, e3, hw, zero_le_cast, Int.toNat_natCast, go_sem, Nat.reduceAdd, Nat.reduceSub, Nat.reduceMul, Nat.reduceMod, Nat.reduceLT, Nat.reduceLeDiff, Nat.reduceEqDiff, Nat.reduceBEq, Nat.reduceDiv, Int.reduceLT, Int.reduceLE, Int.reduceToNat, Int.reduceNeg, Int.reduceEq, ↓reduceIte, reduceCtorEq, ↓reduceDIte]
theorem call_wt (uses : List Int) (a : Int) (k : Nat) (hk : k ≤ uses.length) (hb : uses.length < 1000000) : callOf pr 73 [L uses, I a, I k] [] = some (I (waitN uses a k), []) := by
  have h := call_nx uses a k hk hb
  rw [waitN_eq]
  generalize nextI uses a k = v at *
  rw [call_eq pr 73 _ _ Try.f73 fn_73 _ rfl _ ann_73 rfl]
  by_cases hv : v < 0
  · have h1 : (0 ≤ v) = False := fa (by omega)
    rw [if_pos hv]
    simp -implicitDefEqProofs only [h, h1, ge_iff_le, go_sem, Nat.reduceAdd, Nat.reduceSub, Nat.reduceMul, Nat.reduceMod, Nat.reduceLT, Nat.reduceLeDiff, Nat.reduceEqDiff, Nat.reduceBEq, Nat.reduceDiv, Int.reduceLT, Int.reduceLE, Int.reduceToNat, Int.reduceNeg, Int.reduceEq, ↓reduceIte, reduceCtorEq, ↓reduceDIte]
  · have h1 : (0 ≤ v) = True := tr (by omega)
    rw [if_neg hv]
    simp -implicitDefEqProofs only [h, h1, ge_iff_le, go_sem, Nat.reduceAdd, Nat.reduceSub, Nat.reduceMul, Nat.reduceMod, Nat.reduceLT, Nat.reduceLeDiff, Nat.reduceEqDiff, Nat.reduceBEq, Nat.reduceDiv, Int.reduceLT, Int.reduceLE, Int.reduceToNat, Int.reduceNeg, Int.reduceEq, ↓reduceIte, reduceCtorEq, ↓reduceDIte]
theorem lnx_l (uses : List Int) (a : Int) (hb : uses.length < 1000000) : ∀ (suf : List Int) (k : Nat), uses.drop k = suf → k ≤ uses.length → loopOf pr 85 0 ⟨[(0, L uses), (2, I a), (7, I k)], []⟩ = match ageOf a suf with
    | some j => some (.ret, ⟨[(6, I ((k + j : Nat) : Int))], []⟩)
    | none => some (.exit 0, ⟨[(0, L uses), (2, I a), (7, I uses.length)], []⟩)
  | [], k, e, hk => by
    have hk2 : k = uses.length := by
      have := congrArg List.length e
      simp only [List.length_drop, List.length_nil] at this
      omega
    subst hk2
    rw [show ageOf a [] = none from rfl]
    rw [loop_eq pr 85 0 _ Try.f85 fn_85 _ rfl _ ann_85 _ rfl]
    simp -implicitDefEqProofs only [Int.lt_irrefl, go_sem, Nat.reduceAdd, Nat.reduceSub, Nat.reduceMul, Nat.reduceMod, Nat.reduceLT, Nat.reduceLeDiff, Nat.reduceEqDiff, Nat.reduceBEq, Nat.reduceDiv, Int.reduceLT, Int.reduceLE, Int.reduceToNat, Int.reduceNeg, Int.reduceEq, ↓reduceIte, reduceCtorEq, ↓reduceDIte]
  | x :: suf, k, e, hk => by
    have hlt : k < uses.length := by
      have := congrArg List.length e
      simp only [List.length_drop, List.length_cons] at this
      omega
    have hx0 : uses[k]? = some x := by
      have := congrArg (·[0]?) e
      simpa using this
    have hx : ∀ z, uses.getD k z = x := fun z => by simp [List.getD, hx0]
    have hw : IntKind.i64.wrap ((k : Int) + 1) = ((k + 1 : Nat) : Int) := by rw [wrap_i] <;> omega
    have e' : uses.drop (k + 1) = suf := by
      have := congrArg (·.drop 1) e
      simpa using this
    by_cases hxa : x = a
    · rw [show ageOf a (x :: suf) = some 0 by simp [ageOf, List.findIdx?_cons, hxa]]
      rw [loop_eq pr 85 0 _ Try.f85 fn_85 _ rfl _ ann_85 _ rfl]
      simp -implicitDefEqProofs only [lt_cast hlt, zero_le_cast, Int.toNat_natCast, hx, tr hxa, Nat.add_zero, go_sem, Nat.reduceAdd, Nat.reduceSub, Nat.reduceMul, Nat.reduceMod, Nat.reduceLT, Nat.reduceLeDiff, Nat.reduceEqDiff, Nat.reduceBEq, Nat.reduceDiv, Int.reduceLT, Int.reduceLE, Int.reduceToNat, Int.reduceNeg, Int.reduceEq, ↓reduceIte, reduceCtorEq, ↓reduceDIte]
    · have ih := lnx_l uses a hb suf (k + 1) e' (by omega)
      rw [loop_eq pr 85 0 _ Try.f85 fn_85 _ rfl _ ann_85 _ rfl]
      simp -implicitDefEqProofs only [lt_cast hlt, zero_le_cast, Int.toNat_natCast, hx, fa hxa, hw, go_sem, Nat.reduceAdd, Nat.reduceSub, Nat.reduceMul, Nat.reduceMod, Nat.reduceLT, Nat.reduceLeDiff, Nat.reduceEqDiff, Nat.reduceBEq, Nat.reduceDiv, Int.reduceLT, Int.reduceLE, Int.reduceToNat, Int.reduceNeg, Int.reduceEq, ↓reduceIte, reduceCtorEq, ↓reduceDIte]
      rw [ih]
      have hc : ageOf a (x :: suf) = (ageOf a suf).map (· + 1) := by simp [ageOf, List.findIdx?_cons, hxa]
      rw [hc]
      cases ageOf a suf with
      | none => rfl
      | some j => simp only [Option.map_some]; rw [show k + 1 + j = k + (j + 1) by omega]
theorem call_lnx (uses : List Int) (a : Int) (k : Nat) (hk : k + 1 ≤ uses.length) (hb : uses.length < 1000000) : callOf pr 85 [L uses, I k, I a] [] = some (I (waitN uses a (k + 1)), []) := by
  have h := lnx_l uses a hb (uses.drop (k + 1)) (k + 1) rfl hk
  have hw : IntKind.i64.wrap ((k : Int) + 1) = ((k + 1 : Nat) : Int) := by rw [wrap_i] <;> omega
  rw [call_eq pr 85 _ _ Try.f85 fn_85 _ rfl _ ann_85 rfl]
  unfold waitN
  unfold ageOf at h
  cases hg : (uses.drop (k + 1)).findIdx? (fun x => decide (x = a)) with
  | none =>
    rw [hg] at h
    simp only at h
    simp -implicitDefEqProofs only [h, hw, go_sem, Nat.reduceAdd, Nat.reduceSub, Nat.reduceMul, Nat.reduceMod, Nat.reduceLT, Nat.reduceLeDiff, Nat.reduceEqDiff, Nat.reduceBEq, Nat.reduceDiv, Int.reduceLT, Int.reduceLE, Int.reduceToNat, Int.reduceNeg, Int.reduceEq, ↓reduceIte, reduceCtorEq, ↓reduceDIte]
  | some j =>
    rw [hg] at h
    simp only at h
    simp -implicitDefEqProofs only [h, hw, go_sem, Nat.reduceAdd, Nat.reduceSub, Nat.reduceMul, Nat.reduceMod, Nat.reduceLT, Nat.reduceLeDiff, Nat.reduceEqDiff, Nat.reduceBEq, Nat.reduceDiv, Int.reduceLT, Int.reduceLE, Int.reduceToNat, Int.reduceNeg, Int.reduceEq, ↓reduceIte, reduceCtorEq, ↓reduceDIte]
def cmpV (uses : List Int) (k : Nat) (a b : Int) : Int := if waitN uses a k - waitN uses b k ≠ 0 then waitN uses a k - waitN uses b k else b - a
theorem call_v1 (uses : List Int) (k : Nat) (hk : k ≤ uses.length) (hb : uses.length ≤ 60) (a b : Int) (ha : 0 ≤ a ∧ a ≤ 63) (hbb : 0 ≤ b ∧ b ≤ 63) : callOf pr 72 [I a, I b, .rp [L uses], .rp [I k]] [] = some (I (cmpV uses k a b), []) := by
  have h1 := call_wt uses a k hk (by omega)
  have h2 := call_wt uses b k hk (by omega)
  have r1 := waitN_lt hb (a := a) (k := k)
  have r2 := waitN_lt hb (a := b) (k := k)
  unfold cmpV
  generalize waitN uses a k = u at *
  generalize waitN uses b k = v at *
  have hw : IntKind.i64.wrap (u - v) = u - v := by rw [wrap_i] <;> omega
  have hw2 : IntKind.i64.wrap (b - a) = b - a := by rw [wrap_i] <;> omega
  rw [call_eq pr 72 _ _ Try.f72 fn_72 _ rfl _ ann_72 rfl]
  by_cases hz : u - v = 0
  · rw [if_neg (by simpa using hz)]
    simp -implicitDefEqProofs only [h1, h2, hw, hw2, tr hz, go_sem, Nat.reduceAdd, Nat.reduceSub, Nat.reduceMul, Nat.reduceMod, Nat.reduceLT, Nat.reduceLeDiff, Nat.reduceEqDiff, Nat.reduceBEq, Nat.reduceDiv, Int.reduceLT, Int.reduceLE, Int.reduceToNat, Int.reduceNeg, Int.reduceEq, ↓reduceIte, reduceCtorEq, ↓reduceDIte]
  · rw [if_pos hz]
    simp -implicitDefEqProofs only [h1, h2, hw, hw2, fa hz, go_sem, Nat.reduceAdd, Nat.reduceSub, Nat.reduceMul, Nat.reduceMod, Nat.reduceLT, Nat.reduceLeDiff, Nat.reduceEqDiff, Nat.reduceBEq, Nat.reduceDiv, Int.reduceLT, Int.reduceLE, Int.reduceToNat, Int.reduceNeg, Int.reduceEq, ↓reduceIte, reduceCtorEq, ↓reduceDIte]
theorem mx_l (uses : List Int) (k : Nat) (hk : k ≤ uses.length) (hb : uses.length ≤ 60) (xs : List Int) (hl : xs.length < 1000000) (hr : ∀ x ∈ xs, 0 ≤ x ∧ x ≤ 63) : ∀ (suf : List Int) (m : Int) (j : Nat), xs.drop j = suf → j ≤ xs.length → (0 ≤ m ∧ m ≤ 63) →
    ∃ r, r = (suf.foldl (fun m y => if 0 < cmpV uses k y m then y else m) m) ∧ loopOf pr 71 0 ⟨[(0, L xs), (1, .fn 72 [.rp [L uses], .rp [I k]]), (5, I m), (6, I j)], []⟩ = some (.exit 0, ⟨[(0, L xs), (1, .fn 72 [.rp [L uses], .rp [I k]]), (5, I r), (6, I xs.length)], []⟩)
  | [], m, j, e, hj, hm => by
    have hj2 : j = xs.length := by
      have := congrArg List.length e
      simp only [List.length_drop, List.length_nil] at this
      omega
    subst hj2
    refine ⟨m, rfl, ?_⟩
    rw [loop_eq pr 71 0 _ Try.f71 fn_71 _ rfl _ ann_71 _ rfl]
    simp -implicitDefEqProofs only [Int.lt_irrefl, go_sem, Nat.reduceAdd, Nat.reduceSub, Nat.reduceMul, Nat.reduceMod, Nat.reduceLT, Nat.reduceLeDiff, Nat.reduceEqDiff, Nat.reduceBEq, Nat.reduceDiv, Int.reduceLT, Int.reduceLE, Int.reduceToNat, Int.reduceNeg, Int.reduceEq, ↓reduceIte, reduceCtorEq, ↓reduceDIte]
  | y :: suf, m, j, e, hj, hm => by
    have hlt : j < xs.length := by
      have := congrArg List.length e
      simp only [List.length_drop, List.length_cons] at this
      omega
    have hy0 : xs[j]? = some y := by
      have := congrArg (·[0]?) e
      simpa using this
    have hy : ∀ z, xs.getD j z = y := fun z => by simp [List.getD, hy0]
    have hyr := hr y (List.mem_of_getElem? hy0)
    have hw : IntKind.i64.wrap ((j : Int) + 1) = ((j + 1 : Nat) : Int) := by rw [wrap_i] <;> omega
    have e' : xs.drop (j + 1) = suf := by
      have := congrArg (·.drop 1) e
      simpa using this
    have hc := call_v1 uses k hk hb y m hyr hm
    obtain ⟨r, q1, q2⟩ := mx_l uses k hk hb xs hl hr suf (if 0 < cmpV uses k y m then y else m) (j + 1) e' (by omega) (by split <;> assumption)
    refine ⟨r, q1, ?_⟩
    rw [← q2]
    rw [loop_eq pr 71 0 _ Try.f71 fn_71 _ rfl _ ann_71 _ rfl]
    by_cases hp : 0 < cmpV uses k y m
    · rw [if_pos hp]
      simp -implicitDefEqProofs only [lt_cast hlt, zero_le_cast, Int.toNat_natCast, hy, hw, hc, tr hp, gt_iff_lt, go_sem, Nat.reduceAdd, Nat.reduceSub, Nat.reduceMul, Nat.reduceMod, Nat.reduceLT, Nat.reduceLeDiff, Nat.reduceEqDiff, Nat.reduceBEq, Nat.reduceDiv, Int.reduceLT, Int.reduceLE, Int.reduceToNat, Int.reduceNeg, Int.reduceEq, ↓reduceIte, reduceCtorEq, ↓reduceDIte]
    · rw [if_neg hp]
      simp -implicitDefEqProofs only [lt_cast hlt, zero_le_cast, Int.toNat_natCast, hy, hw, hc, fa hp, gt_iff_lt, go_sem, Nat.reduceAdd, Nat.reduceSub, Nat.reduceMul, Nat.reduceMod, Nat.reduceLT, Nat.reduceLeDiff, Nat.reduceEqDiff, Nat.reduceBEq, Nat.reduceDiv, Int.reduceLT, Int.reduceLE, Int.reduceToNat, Int.reduceNeg, Int.reduceEq, ↓reduceIte, reduceCtorEq, ↓reduceDIte]
end Go.Proofs.Yticbfkoialmojaa.PI
