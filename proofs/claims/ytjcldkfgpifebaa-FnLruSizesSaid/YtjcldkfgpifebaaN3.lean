/- Misses of a policy: out of P7. -/
import Derived.Test.YtjcldkfgpifebaaP6
namespace Go.Proofs.Ytjcldkfgpifebaa.PI
open Go Go.Q
set_option maxRecDepth 100000
set_option maxHeartbeats 4000000
set_option linter.unusedSimpArgs false
set_option linter.unusedVariables false
def bits01 (l : List Int) : Prop := ∀ x ∈ l, x = 0 ∨ x = 1
theorem sum01 : ∀ (l : List Int), bits01 l → 0 ≤ l.sum ∧ l.sum ≤ l.length
  | [], h => by simp
  | x :: l, h => by
    have h1 := sum01 l (fun y hy => h y (List.mem_cons_of_mem _ hy))
    have h2 := h x (List.mem_cons_self ..)
    simp only [List.sum_cons, List.length_cons]
    omega
theorem runC_bits (hit : List (List Int)) (miss : List Int) : ∀ (uses now : List Int), bits01 (runC hit miss now uses).1
  | [], now, x, hx => by simp [runC] at hx
  | a :: uses, now, x, hx => by
    simp only [runC, List.mem_cons] at hx
    rcases hx with hx | hx
    · split at hx <;> simp [hx]
    · exact runC_bits hit miss uses _ x hx
def missN (hs : List Int) : Int := hs.length - hs.sum
theorem loop_imi (i : Nat) (hi : i = 896 ∨ i = 897) (n : Nat) (hb : n < 1000000) : ∀ (suf pre : List Int), bits01 (pre ++ suf) → pre.length + suf.length = n →
    loopOf pr 28 0 ⟨[(8, I ((pre.length : Int) - pre.sum)), (18, .os (.t i)), (19, I n), (20, I pre.length)], [(i, .arr true false (.int .i64) (pre ++ suf))]⟩ = some (.exit 0, ⟨[(8, I ((n : Int) - (pre ++ suf).sum)), (18, .os (.t i)), (19, I n), (20, I n)], [(i, .arr true false (.int .i64) (pre ++ suf))]⟩)
  | [], pre, h, hl => by
    have : n = pre.length := by simp at hl; exact hl.symm
    subst this
    rw [loop_eq pr 28 0 _ Try.f28 fn_28 _ rfl _ ann_28 _ rfl]
    rcases hi with rfl | rfl
    · simp -implicitDefEqProofs only [Int.lt_irrefl, List.append_nil, Nat.add_zero, go_sem, Nat.reduceAdd, Nat.reduceSub, Nat.reduceMul, Nat.reduceMod, Nat.reduceLT, Nat.reduceLeDiff, Nat.reduceEqDiff, Nat.reduceBEq, Nat.reduceDiv, Int.reduceLT, Int.reduceLE, Int.reduceToNat, Int.reduceNeg, Int.reduceEq, ↓reduceIte, reduceCtorEq, ↓reduceDIte]
    · simp -implicitDefEqProofs only [Int.lt_irrefl, List.append_nil, Nat.add_zero, go_sem, Nat.reduceAdd, Nat.reduceSub, Nat.reduceMul, Nat.reduceMod, Nat.reduceLT, Nat.reduceLeDiff, Nat.reduceEqDiff, Nat.reduceBEq, Nat.reduceDiv, Int.reduceLT, Int.reduceLE, Int.reduceToNat, Int.reduceNeg, Int.reduceEq, ↓reduceIte, reduceCtorEq, ↓reduceDIte]
  | x :: suf, pre, h, hl => by
    simp only [List.length_cons] at hl
    have hx := h x (by simp)
    have hp := sum01 pre (fun y hy => h y (by simp [hy]))
    have hlt : ((pre.length : Int) < (n : Int)) = True := tr (by omega)
    have hw : IntKind.i64.wrap ((pre.length : Int) + 1) = ((pre.length + 1 : Nat) : Int) := by rw [wrap_i] <;> omega
    have hw1 : IntKind.i64.wrap (1 - x) = 1 - x := by rw [wrap_i] <;> omega
    have hw2 : IntKind.i64.wrap ((pre.length : Int) - pre.sum + (1 - x)) = ((pre.length + 1 : Nat) : Int) - (pre ++ [x]).sum := by
      have e : (pre ++ [x]).sum = pre.sum + x := by simp
      rw [e, wrap_i] <;> omega
    have ih := loop_imi i hi n hb suf (pre ++ [x]) (by rw [app_one]; exact h) (by simp; omega)
    have e1 : (pre ++ [x]).length = pre.length + 1 := by simp
    rw [app_one, e1] at ih
    rw [loop_eq pr 28 0 _ Try.f28 fn_28 _ rfl _ ann_28 _ rfl]
    rcases hi with rfl | rfl
    · simp -implicitDefEqProofs only [hlt, getD_app, lt_app, ltn_app, zero_le_cast, Int.toNat_natCast, hw, hw1, hw2, go_sem, Nat.reduceAdd, Nat.reduceSub, Nat.reduceMul, Nat.reduceMod, Nat.reduceLT, Nat.reduceLeDiff, Nat.reduceEqDiff, Nat.reduceBEq, Nat.reduceDiv, Int.reduceLT, Int.reduceLE, Int.reduceToNat, Int.reduceNeg, Int.reduceEq, ↓reduceIte, reduceCtorEq, ↓reduceDIte]
      exact ih
    · simp -implicitDefEqProofs only [hlt, getD_app, lt_app, ltn_app, zero_le_cast, Int.toNat_natCast, hw, hw1, hw2, go_sem, Nat.reduceAdd, Nat.reduceSub, Nat.reduceMul, Nat.reduceMod, Nat.reduceLT, Nat.reduceLeDiff, Nat.reduceEqDiff, Nat.reduceBEq, Nat.reduceDiv, Int.reduceLT, Int.reduceLE, Int.reduceToNat, Int.reduceNeg, Int.reduceEq, ↓reduceIte, reduceCtorEq, ↓reduceDIte]
      exact ih
theorem call_imi (hit : List (List Int)) (miss : List Int) (hv : validP hit miss = true) (uses : List Int) (hb : uses.length < 1000000) : callOf pr 28 [.agg [LL hit, L miss], L uses] [] = some (I (missN (runC hit miss (emptyC miss) uses).1), []) := by
  obtain ⟨c, hc, h1⟩ := call_irun hit miss hv uses hb
  have hl := (runC_length hit miss uses (emptyC miss)).1
  have h := fun (i : Nat) (hi : i = 896 ∨ i = 897) => loop_imi i hi uses.length hb (runC hit miss (emptyC miss) uses).1 [] (runC_bits hit miss uses (emptyC miss)) (by simp [hl])
  simp only [List.nil_append, List.length_nil, List.sum_nil, Int.sub_zero] at h
  have h : ∀ (i : Nat) (hi : i = 896 ∨ i = 897), loopOf pr 28 0 ⟨[(8, I 0), (18, .os (.t i)), (19, I uses.length), (20, I 0)], [(i, .arr true false (.int .i64) (runC hit miss (emptyC miss) uses).1)]⟩ = some (.exit 0, ⟨[(8, I ((uses.length : Int) - (runC hit miss (emptyC miss) uses).1.sum)), (18, .os (.t i)), (19, I uses.length), (20, I uses.length)], [(i, .arr true false (.int .i64) (runC hit miss (emptyC miss) uses).1)]⟩) := h
  have hk : missN (runC hit miss (emptyC miss) uses).1 = (uses.length : Int) - (runC hit miss (emptyC miss) uses).1.sum := by rw [missN, hl]
  rw [call_eq pr 28 _ _ Try.f28 fn_28 _ rfl _ ann_28 rfl, hk]
  rcases hc with rfl | rfl
  · rw [if_pos rfl] at h1
    have h := h 897 (.inr rfl)
    simp -implicitDefEqProofs only [h1, hl, h, go_sem, Nat.reduceAdd, Nat.reduceSub, Nat.reduceMul, Nat.reduceMod, Nat.reduceLT, Nat.reduceLeDiff, Nat.reduceEqDiff, Nat.reduceBEq, Nat.reduceDiv, Int.reduceLT, Int.reduceLE, Int.reduceToNat, Int.reduceNeg, Int.reduceEq, ↓reduceIte, reduceCtorEq, ↓reduceDIte]
  · rw [if_neg (by omega)] at h1
    have h := h 896 (.inl rfl)
    simp -implicitDefEqProofs only [h1, hl, h, go_sem, Nat.reduceAdd, Nat.reduceSub, Nat.reduceMul, Nat.reduceMod, Nat.reduceLT, Nat.reduceLeDiff, Nat.reduceEqDiff, Nat.reduceBEq, Nat.reduceDiv, Int.reduceLT, Int.reduceLE, Int.reduceToNat, Int.reduceNeg, Int.reduceEq, ↓reduceIte, reduceCtorEq, ↓reduceDIte]
def fair (hit : List (List Int)) (miss uses : List Int) : Bool := validP hit miss && validU uses
theorem fair_len {hit : List (List Int)} {miss uses : List Int} (h : fair hit miss uses = true) : validP hit miss = true ∧ uses.length ≤ 60 := by
  simp only [fair, validU, Bool.and_eq_true, decide_eq_true_eq] at h
  exact ⟨h.1, h.2.2⟩

theorem copyIn_tail {α : Type} (xs ys : List α) (z : α) : copyIn (xs ++ ys) (List.replicate ((xs ++ ys).length - xs.length) z) xs.length ((xs ++ ys).length - xs.length) = xs ++ List.replicate ys.length z := by
  have h : (xs ++ ys).length - xs.length = ys.length := by simp
  unfold copyIn
  rw [h, List.take_left, List.take_of_length_le (by simp)]
  have : (xs ++ ys).drop (xs.length + (List.replicate ys.length z).length) = [] := by
    rw [List.drop_eq_nil_iff]; simp
  rw [this, List.append_nil]
/-- Numbers that differ from those before them. -/
def pushC : Int → List Int → List Int
  | _, [] => []
  | c, e :: r => if e = c then pushC e r else e :: pushC e r
def comp : List Int → List Int
  | [] => []
  | x :: l => x :: pushC x l
theorem pushC_length : ∀ (c : Int) (l : List Int), (pushC c l).length ≤ l.length
  | _, [] => Nat.le_refl _
  | c, e :: r => by
    have := pushC_length e r
    simp only [pushC]
    split <;> simp only [List.length_cons] <;> omega
/-- The second loop: what is kept, what lies between, the last one looked at, the rest. -/
theorem loop_co1 (K M : Nat) : ∀ (rest out mid : List Int) (c : Int), 1 ≤ K → out.length + mid.length + 1 + rest.length = K + M → K + M < 1000000 → K ≤ out.length + mid.length →
    ∃ tl : List Int, tl.length = K + M - (out ++ pushC c rest).length ∧ loopOf pr 36 1 ⟨[(0, .os (.t 1000000)), (3, I out.length), (4, .sub (.t 1000000) K M), (5, I ((out.length + mid.length + 1 - K : Nat) : Int))], [(1000000, .arr false false (.int .i64) (out ++ mid ++ c :: rest))]⟩ = some (.exit 2, ⟨[(0, .os (.t 1000000)), (3, I (out ++ pushC c rest).length), (4, .sub (.t 1000000) K M), (5, I M)], [(1000000, .arr false false (.int .i64) (out ++ pushC c rest ++ tl))]⟩)
  | [], out, mid, c, hK, hl, hb, hle => by
    refine ⟨mid ++ [c], by simp [pushC]; simp at hl; omega, ?_⟩
    have he : out.length + mid.length + 1 - K = M := by simp at hl; omega
    rw [he, loop_eq pr 36 1 _ Try.f36 fn_36 _ rfl _ ann_36 _ rfl]
    simp -implicitDefEqProofs only [Int.lt_irrefl, pushC, List.append_nil, go_sem, Nat.reduceAdd, Nat.reduceSub, Nat.reduceMul, Nat.reduceMod, Nat.reduceLT, Nat.reduceLeDiff, Nat.reduceEqDiff, Nat.reduceBEq, Nat.reduceDiv, Int.reduceLT, Int.reduceLE, Int.reduceToNat, Int.reduceNeg, Int.reduceEq, ↓reduceIte, reduceCtorEq, ↓reduceDIte]
    simp
  | e :: rest, out, mid, c, hK, hl, hb, hle => by
    simp only [List.length_cons] at hl
    have hlt : ((((out.length + mid.length + 1 - K : Nat)) : Int) < (M : Int)) = True := tr (by omega)
    have g0 : (0 ≤ (((out.length + mid.length + 1 - K : Nat)) : Int)) = True := tr (by omega)
    have hw1 : IntKind.i64.wrap (((out.length + mid.length + 1 - K : Nat) : Int) - 1) = ((out.length + mid.length - K : Nat) : Int) := by rw [wrap_i] <;> omega
    have g1 : (0 ≤ ((out.length + mid.length - K : Nat) : Int)) = True := tr (by omega)
    have g2 : (((out.length + mid.length - K : Nat) : Int) < (M : Int)) = True := tr (by omega)
    have i1 : K + (out.length + mid.length + 1 - K) = out.length + mid.length + 1 := by omega
    have i2 : K + (out.length + mid.length - K) = out.length + mid.length := by omega
    have v1 : (out ++ mid ++ c :: e :: rest).getD (K + (out.length + mid.length + 1 - K)) 0 = e := by
      rw [i1, show out ++ mid ++ c :: e :: rest = (out ++ mid ++ [c]) ++ e :: rest from by simp, show out.length + mid.length + 1 = (out ++ mid ++ [c]).length from by simp only [List.length_append, List.length_cons, List.length_nil]]
      exact getD_app _ _ _ _
    have v2 : (out ++ mid ++ c :: e :: rest).getD (K + (out.length + mid.length - K)) 0 = c := by
      rw [i2, show out.length + mid.length = (out ++ mid).length from by simp]
      exact getD_app _ _ _ _
    have q1 : (K + (out.length + mid.length + 1 - K) < (out ++ mid ++ c :: e :: rest).length) = True := tr (by simp; omega)
    have q2 : (K + (out.length + mid.length - K) < (out ++ mid ++ c :: e :: rest).length) = True := tr (by simp; omega)
    have hw2 : IntKind.i64.wrap (((out.length + mid.length + 1 - K : Nat) : Int) + 1) = ((out.length + mid.length + 1 + 1 - K : Nat) : Int) := by rw [wrap_i] <;> omega
    rw [loop_eq pr 36 1 _ Try.f36 fn_36 _ rfl _ ann_36 _ rfl]
    by_cases hec : e = c
    · have hp : pushC c (e :: rest) = pushC e rest := by simp [pushC, hec]
      obtain ⟨tl, h1, h2⟩ := loop_co1 K M rest out (mid ++ [c]) e hK (by simp; omega) hb (by simp; omega)
      have e1 : out ++ (mid ++ [c]) ++ e :: rest = out ++ mid ++ c :: e :: rest := by simp
      have e2 : out.length + (mid ++ [c]).length + 1 - K = out.length + mid.length + 1 + 1 - K := by simp; omega
      rw [e1, e2] at h2
      rw [hp]
      refine ⟨tl, h1, ?_⟩
      simp -implicitDefEqProofs only [hlt, g0, g1, g2, hw1, hw2, Int.toNat_natCast, v1, v2, q1, q2, zero_le_cast, tr hec, go_sem, Nat.reduceAdd, Nat.reduceSub, Nat.reduceMul, Nat.reduceMod, Nat.reduceLT, Nat.reduceLeDiff, Nat.reduceEqDiff, Nat.reduceBEq, Nat.reduceDiv, Int.reduceLT, Int.reduceLE, Int.reduceToNat, Int.reduceNeg, Int.reduceEq, ↓reduceIte, reduceCtorEq, ↓reduceDIte]
      exact h2
    · have hp : pushC c (e :: rest) = e :: pushC e rest := by simp [pushC, hec]
      have hw3 : IntKind.i64.wrap ((out.length : Int) + 1) = ((out.length + 1 : Nat) : Int) := by rw [wrap_i] <;> omega
      have q3 : ((out.length : Int) < ((out ++ mid ++ c :: e :: rest).length : Int)) = True := tr (by simp; omega)
      have q4 : (out.length < (out ++ mid ++ c :: e :: rest).length) = True := tr (by simp; omega)
      obtain ⟨m0, mt, hm⟩ : ∃ m0 mt, mid ++ [c] = m0 :: mt := by cases mid with | nil => exact ⟨c, [], rfl⟩ | cons m0 mt => exact ⟨m0, mt ++ [c], rfl⟩
      have hml : mt.length = mid.length := by
        have := congrArg List.length hm
        simp at this; omega
      have hset : (out ++ mid ++ c :: e :: rest).set out.length e = (out ++ [e]) ++ mt ++ e :: rest := by
        rw [show out ++ mid ++ c :: e :: rest = out ++ ((mid ++ [c]) ++ e :: rest) from by simp, hm]
        simp
      obtain ⟨tl, h1, h2⟩ := loop_co1 K M rest (out ++ [e]) mt e hK (by simp; omega) hb (by simp; omega)
      have e0 : (out ++ [e]) ++ pushC e rest = out ++ e :: pushC e rest := by simp
      have e1 : (out ++ [e]).length = out.length + 1 := by simp
      have e2 : out.length + 1 + mt.length + 1 - K = out.length + mid.length + 1 + 1 - K := by omega
      rw [e0] at h1 h2
      rw [e1, e2] at h2
      rw [hp]
      refine ⟨tl, h1, ?_⟩
      simp -implicitDefEqProofs only [hlt, g0, g1, g2, hw1, hw2, Int.toNat_natCast, v1, v2, q1, q2, zero_le_cast, fa hec, hw3, q3, q4, hset, go_sem, Nat.reduceAdd, Nat.reduceSub, Nat.reduceMul, Nat.reduceMod, Nat.reduceLT, Nat.reduceLeDiff, Nat.reduceEqDiff, Nat.reduceBEq, Nat.reduceDiv, Int.reduceLT, Int.reduceLE, Int.reduceToNat, Int.reduceNeg, Int.reduceEq, ↓reduceIte, reduceCtorEq, ↓reduceDIte]
      exact h2
/-- No two neighbours are the same. -/
def incr : Int → List Int → Bool
  | _, [] => true
  | c, e :: r => decide (e ≠ c) && incr e r
theorem pushC_incr : ∀ {c : Int} {l : List Int}, incr c l = true → pushC c l = l
  | _, [], _ => rfl
  | c, e :: r, h => by
    simp only [incr, Bool.and_eq_true, decide_eq_true_eq] at h
    simp only [pushC, if_neg h.1, pushC_incr h.2]
theorem pushC_less : ∀ {c : Int} {l : List Int}, incr c l = false → (pushC c l).length < l.length
  | _, [], h => by simp [incr] at h
  | c, e :: r, h => by
    simp only [pushC]
    by_cases hec : e = c
    · rw [if_pos hec]
      have := pushC_length e r
      simp only [List.length_cons]; omega
    · rw [if_neg hec]
      have h' : incr e r = false := by simpa [incr, hec] using h
      have := pushC_less h'
      simp only [List.length_cons]; omega
/-- The first loop: it looks for the first two that are the same. -/
theorem loop_co0 : ∀ (suf pre : List Int) (a : Int), pre.length + 1 + suf.length < 1000000 →
    (incr a suf = true → loopOf pr 36 0 ⟨[(0, .os (.t 1000000)), (3, I ((pre.length + 1 : Nat) : Int))], [(1000000, .arr false false (.int .i64) (pre ++ a :: suf))]⟩ = some (.exit 0, ⟨[(0, .os (.t 1000000)), (3, I ((pre.length + 1 + suf.length : Nat) : Int))], [(1000000, .arr false false (.int .i64) (pre ++ a :: suf))]⟩)) ∧
    (incr a suf = false → loopOf pr 36 0 ⟨[(0, .os (.t 1000000)), (3, I ((pre.length + 1 : Nat) : Int))], [(1000000, .arr false false (.int .i64) (pre ++ a :: suf))]⟩ = some (.ret, ⟨[(2, .sub (.t 1000000) 0 (pre ++ a :: pushC a suf).length)], [(1000000, .arr false false (.int .i64) ((pre ++ a :: pushC a suf) ++ List.replicate (pre.length + 1 + suf.length - (pre ++ a :: pushC a suf).length) 0))]⟩))
  | [], pre, a, hb => by
    refine ⟨fun _ => ?_, fun h => by simp [incr] at h⟩
    rw [loop_eq pr 36 0 _ Try.f36 fn_36 _ rfl _ ann_36 _ rfl]
    have hl : ((((pre.length + 1 : Nat)) : Int) < ((pre ++ [a]).length : Int)) = False := fa (by simp)
    simp -implicitDefEqProofs only [hl, List.length_nil, Nat.add_zero, go_sem, Nat.reduceAdd, Nat.reduceSub, Nat.reduceMul, Nat.reduceMod, Nat.reduceLT, Nat.reduceLeDiff, Nat.reduceEqDiff, Nat.reduceBEq, Nat.reduceDiv, Int.reduceLT, Int.reduceLE, Int.reduceToNat, Int.reduceNeg, Int.reduceEq, ↓reduceIte, reduceCtorEq, ↓reduceDIte]
  | b :: suf, pre, a, hb => by
    simp only [List.length_cons] at hb ⊢
    have hlt : ((((pre.length + 1 : Nat)) : Int) < ((pre ++ a :: b :: suf).length : Int)) = True := tr (by simp; omega)
    have g0 : (0 ≤ (((pre.length + 1 : Nat)) : Int)) = True := tr (by omega)
    have g1 : (0 ≤ ((pre.length : Nat) : Int)) = True := tr (by omega)
    have g2 : (((pre.length : Nat) : Int) < ((pre ++ a :: b :: suf).length : Int)) = True := tr (by simp; omega)
    have hw1 : IntKind.i64.wrap (((pre.length + 1 : Nat) : Int) - 1) = ((pre.length : Nat) : Int) := by rw [wrap_i] <;> omega
    have hw2 : IntKind.i64.wrap (((pre.length + 1 : Nat) : Int) + 1) = ((pre.length + 1 + 1 : Nat) : Int) := by rw [wrap_i] <;> omega
    have v1 : (pre ++ a :: b :: suf).getD (pre.length + 1) 0 = b := by
      rw [show pre ++ a :: b :: suf = (pre ++ [a]) ++ b :: suf from by simp, show pre.length + 1 = (pre ++ [a]).length from by simp]
      exact getD_app _ _ _ _
    have v2 : (pre ++ a :: b :: suf).getD pre.length 0 = a := getD_app _ _ _ _
    have q1 : (pre.length + 1 < (pre ++ a :: b :: suf).length) = True := tr (by simp)
    have q2 : (pre.length < (pre ++ a :: b :: suf).length) = True := tr (by simp)
    by_cases hba : b = a
    · refine ⟨fun h => by simp [incr, hba] at h, fun _ => ?_⟩
      have hp : pushC a (b :: suf) = pushC b suf := by simp [pushC, hba]
      have hlen : (pre ++ a :: b :: suf).length = pre.length + 1 + (suf.length + 1) := by simp; omega
      obtain ⟨tl, t1, t2⟩ := loop_co1 (pre.length + 1) (suf.length + 1) suf (pre ++ [a]) [] b (by omega) (by simp; omega) (by omega) (by simp)
      simp only [List.append_nil, List.length_nil, Nat.add_zero] at t2
      have e1 : (pre ++ [a]) ++ b :: suf = pre ++ a :: b :: suf := by simp
      have e2 : (pre ++ [a]).length = pre.length + 1 := by simp
      have e3 : (pre ++ [a]) ++ pushC b suf = pre ++ a :: pushC b suf := by simp
      have e4 : pre.length + 1 + 1 - (pre.length + 1) = 1 := by omega
      rw [e3] at t1 t2
      rw [e1, e2, e4] at t2
      have hle := pushC_length b suf
      have hcl : (pre ++ a :: pushC b suf).length ≤ pre.length + 1 + suf.length := by simp; omega
      rw [hp]
      generalize hcc : pre ++ a :: pushC b suf = cc at t1 t2 hcl ⊢
      have t2 : loopOf pr 36 1 ⟨[(0, .os (.t 1000000)), (3, I ((pre.length + 1 : Nat) : Int)), (4, .sub (.t 1000000) (pre.length + 1) (suf.length + 1)), (5, I 1)], [(1000000, .arr false false (.int .i64) (pre ++ a :: b :: suf))]⟩ = _ := t2
      have h5 : (pre ++ a :: b :: suf).length - (pre.length + 1) = suf.length + 1 := by rw [hlen]; omega
      have h6 : ((((pre.length + 1 : Nat)) : Int) ≤ ((pre ++ a :: b :: suf).length : Int)) = True := tr (by rw [hlen]; omega)
      have h7 : ((cc.length : Int) ≤ ((cc ++ tl).length : Int)) = True := tr (by rw [List.length_append]; omega)
      have h8 := copyIn_tail cc tl (0 : Int)
      have h9 : tl.length = pre.length + 1 + (suf.length + 1) - cc.length := t1
      rw [loop_eq pr 36 0 _ Try.f36 fn_36 _ rfl _ ann_36 _ rfl]
      have h10 : ((cc.length : Int) ≤ ((cc ++ List.replicate (pre.length + 1 + (suf.length + 1) - cc.length) (0 : Int)).length : Int)) = True := tr (by rw [List.length_append]; omega)
      simp -implicitDefEqProofs only [hlt, g0, g1, g2, hw1, hw2, Int.toNat_natCast, v1, v2, q1, q2, zero_le_cast, tr hba, h5, h6, t2, h7, h8, h9, h10, Nat.sub_zero, Int.le_refl, go_sem, Nat.reduceAdd, Nat.reduceSub, Nat.reduceMul, Nat.reduceMod, Nat.reduceLT, Nat.reduceLeDiff, Nat.reduceEqDiff, Nat.reduceBEq, Nat.reduceDiv, Int.reduceLT, Int.reduceLE, Int.reduceToNat, Int.reduceNeg, Int.reduceEq, ↓reduceIte, reduceCtorEq, ↓reduceDIte]
    · have e1 : (pre ++ [a]) ++ b :: suf = pre ++ a :: b :: suf := by simp
      have e2 : (pre ++ [a]).length = pre.length + 1 := by simp
      have e3 : pre.length + 1 + 1 + suf.length = pre.length + 1 + (suf.length + 1) := by omega
      have hp : pushC a (b :: suf) = b :: pushC b suf := by simp [pushC, hba]
      have e4 : (pre ++ [a]) ++ b :: pushC b suf = pre ++ a :: b :: pushC b suf := by simp
      have hi : incr a (b :: suf) = incr b suf := by simp [incr, hba]
      obtain ⟨i1, i2⟩ := loop_co0 suf (pre ++ [a]) b (by simp; omega)
      rw [e1, e2, e3] at i1 i2
      rw [e4] at i2
      rw [hi, hp]
      refine ⟨fun h => ?_, fun h => ?_⟩
      · have ih := i1 h
        rw [loop_eq pr 36 0 _ Try.f36 fn_36 _ rfl _ ann_36 _ rfl]
        simp -implicitDefEqProofs only [hlt, g0, g1, g2, hw1, hw2, Int.toNat_natCast, v1, v2, q1, q2, zero_le_cast, fa hba, go_sem, Nat.reduceAdd, Nat.reduceSub, Nat.reduceMul, Nat.reduceMod, Nat.reduceLT, Nat.reduceLeDiff, Nat.reduceEqDiff, Nat.reduceBEq, Nat.reduceDiv, Int.reduceLT, Int.reduceLE, Int.reduceToNat, Int.reduceNeg, Int.reduceEq, ↓reduceIte, reduceCtorEq, ↓reduceDIte]
        exact ih
      · have ih := i2 h
        rw [loop_eq pr 36 0 _ Try.f36 fn_36 _ rfl _ ann_36 _ rfl]
        simp -implicitDefEqProofs only [hlt, g0, g1, g2, hw1, hw2, Int.toNat_natCast, v1, v2, q1, q2, zero_le_cast, fa hba, go_sem, Nat.reduceAdd, Nat.reduceSub, Nat.reduceMul, Nat.reduceMod, Nat.reduceLT, Nat.reduceLeDiff, Nat.reduceEqDiff, Nat.reduceBEq, Nat.reduceDiv, Int.reduceLT, Int.reduceLE, Int.reduceToNat, Int.reduceNeg, Int.reduceEq, ↓reduceIte, reduceCtorEq, ↓reduceDIte]
        exact ih
theorem call_co (x : Int) (l : List Int) (hb : l.length + 1 < 1000000) : callOf pr 36 [.os (.t 1000000)] [(1000000, .arr false false (.int .i64) (x :: l))] = if incr x l = true then some (.os (.t 1000000), [(1000000, .arr false false (.int .i64) (x :: l))]) else some (.sub (.t 1000000) 0 (comp (x :: l)).length, [(1000000, .arr false false (.int .i64) (comp (x :: l) ++ List.replicate ((x :: l).length - (comp (x :: l)).length) 0))]) := by
  obtain ⟨i1, i2⟩ := loop_co0 l [] x (by simp; omega)
  simp only [List.nil_append, List.length_nil, Nat.zero_add] at i1 i2
  rw [call_eq pr 36 _ _ Try.f36 fn_36 _ rfl _ ann_36 rfl]
  cases l with
  | nil =>
    rw [if_pos (show incr x [] = true from rfl)]
    have h1 : (((1 : Nat) : Int) < 2) = True := tr (by omega)
    simp -implicitDefEqProofs only [h1, go_sem, Nat.reduceAdd, Nat.reduceSub, Nat.reduceMul, Nat.reduceMod, Nat.reduceLT, Nat.reduceLeDiff, Nat.reduceEqDiff, Nat.reduceBEq, Nat.reduceDiv, Int.reduceLT, Int.reduceLE, Int.reduceToNat, Int.reduceNeg, Int.reduceEq, ↓reduceIte, reduceCtorEq, ↓reduceDIte]
  | cons y l =>
    have hl : (((x :: y :: l).length : Int) < 2) = False := fa (by simp; omega)
    cases hi : incr x (y :: l) with
    | true =>
      have h : loopOf pr 36 0 ⟨[(0, .os (.t 1000000)), (3, I 1)], [(1000000, .arr false false (.int .i64) (x :: y :: l))]⟩ = _ := i1 hi
      rw [if_pos (show (true = true) from rfl)]
      simp only [List.length_cons] at hl
      simp -implicitDefEqProofs only [hl, h, go_sem, Nat.reduceAdd, Nat.reduceSub, Nat.reduceMul, Nat.reduceMod, Nat.reduceLT, Nat.reduceLeDiff, Nat.reduceEqDiff, Nat.reduceBEq, Nat.reduceDiv, Int.reduceLT, Int.reduceLE, Int.reduceToNat, Int.reduceNeg, Int.reduceEq, ↓reduceIte, reduceCtorEq, ↓reduceDIte]
    | false =>
      have h : loopOf pr 36 0 ⟨[(0, .os (.t 1000000)), (3, I 1)], [(1000000, .arr false false (.int .i64) (x :: y :: l))]⟩ = _ := i2 hi
      rw [if_neg (by simp)]
      simp only [List.length_cons] at hl
      have e : 1 + (y :: l).length = (x :: y :: l).length := by simp; omega
      rw [e] at h
      simp -implicitDefEqProofs only [hl, h, go_sem, Nat.reduceAdd, Nat.reduceSub, Nat.reduceMul, Nat.reduceMod, Nat.reduceLT, Nat.reduceLeDiff, Nat.reduceEqDiff, Nat.reduceBEq, Nat.reduceDiv, Int.reduceLT, Int.reduceLE, Int.reduceToNat, Int.reduceNeg, Int.reduceEq, ↓reduceIte, reduceCtorEq, ↓reduceDIte]
      rfl
theorem call_co0 : callOf pr 36 [.nilS] [] = some (.nilS, []) := by
  rw [call_eq pr 36 _ _ Try.f36 fn_36 _ rfl _ ann_36 rfl]
  simp -implicitDefEqProofs only [go_sem, Nat.reduceAdd, Nat.reduceSub, Nat.reduceMul, Nat.reduceMod, Nat.reduceLT, Nat.reduceLeDiff, Nat.reduceEqDiff, Nat.reduceBEq, Nat.reduceDiv, Int.reduceLT, Int.reduceLE, Int.reduceToNat, Int.reduceNeg, Int.reduceEq, ↓reduceIte, reduceCtorEq, ↓reduceDIte]
theorem call_st0 : callOf pr 21 [L []] [] = some (.nilS, []) := by
  have h := call_sorted0
  rw [call_eq pr 21 _ _ Try.f21 fn_21 _ rfl _ ann_21 rfl]
  simp -implicitDefEqProofs only [call_values, h, call_co0, go_sem, Nat.reduceAdd, Nat.reduceSub, Nat.reduceMul, Nat.reduceMod, Nat.reduceLT, Nat.reduceLeDiff, Nat.reduceEqDiff, Nat.reduceBEq, Nat.reduceDiv, Int.reduceLT, Int.reduceLE, Int.reduceToNat, Int.reduceNeg, Int.reduceEq, ↓reduceIte, reduceCtorEq, ↓reduceDIte]
theorem call_st (fr : List Int) (h0 : ¬ fr.length = 0) (hl : fr.length < 100000) : callOf pr 21 [L fr] [] = some (.os (.t 320), [(320, .arr true false (.int .i64) (comp (sortI fr)))]) := by
  have h := call_sorted fr h0 (by omega)
  have hs : (sortI fr).length = fr.length := sortI_length fr
  obtain ⟨x, l, hx⟩ : ∃ x l, sortI fr = x :: l := by
    cases hc : sortI fr with
    | nil => rw [hc] at hs; simp at hs; omega
    | cons x l => exact ⟨x, l, rfl⟩
  have h2 := call_co x l (by rw [hx] at hs; simp at hs; omega)
  rw [hx] at h
  rw [hx, call_eq pr 21 _ _ Try.f21 fn_21 _ rfl _ ann_21 rfl]
  cases hi : incr x l with
  | true =>
    rw [hi, if_pos rfl] at h2
    have hc : comp (x :: l) = x :: l := by simp only [comp, pushC_incr hi]
    rw [hc]
    simp -implicitDefEqProofs only [call_values, h, h2, go_sem, Nat.reduceAdd, Nat.reduceSub, Nat.reduceMul, Nat.reduceMod, Nat.reduceLT, Nat.reduceLeDiff, Nat.reduceEqDiff, Nat.reduceBEq, Nat.reduceDiv, Int.reduceLT, Int.reduceLE, Int.reduceToNat, Int.reduceNeg, Int.reduceEq, ↓reduceIte, reduceCtorEq, ↓reduceDIte]
  | false =>
    rw [hi, if_neg (by simp)] at h2
    have hlt := pushC_less hi
    have hcond : (0 + (comp (x :: l)).length ≤ (comp (x :: l) ++ List.replicate (l.length + 1 - (comp (x :: l)).length) (0 : Int)).length ∧ 0 < (comp (x :: l) ++ List.replicate (l.length + 1 - (comp (x :: l)).length) (0 : Int)).length) = True := tr (by
      rw [List.length_append]
      simp only [comp, List.length_cons]
      omega)
    simp -implicitDefEqProofs only [call_values, h, h2, hcond, List.take_left, go_sem, Nat.reduceAdd, Nat.reduceSub, Nat.reduceMul, Nat.reduceMod, Nat.reduceLT, Nat.reduceLeDiff, Nat.reduceEqDiff, Nat.reduceBEq, Nat.reduceDiv, Int.reduceLT, Int.reduceLE, Int.reduceToNat, Int.reduceNeg, Int.reduceEq, ↓reduceIte, reduceCtorEq, ↓reduceDIte]
theorem call_imo (hit : List (List Int)) (miss : List Int) (h1 : hit.length < 1000000000000000000) (h2 : miss.length < 1000000000000000000) (hc : ∀ l ∈ hit, l.length < 1000000000000000000) (uses : List Int) (hu : uses.length < 1000000000000000000) : callOf pr 11 [.agg [LL hit, L miss], L uses] [] = some (if fair hit miss uses = true then .tuple [I (missN (runC hit miss (emptyC miss) uses).1), B true] else .tuple [I 0, B false], []) := by
  have g1 := call_vp hit miss h1 h2 hc
  have g2 := call_vu uses hu
  rw [call_eq pr 11 _ _ Try.f11 fn_11 _ rfl _ ann_11 rfl]
  cases hv : validP hit miss with
  | false =>
    rw [hv] at g1
    rw [if_neg (by simp [fair, hv])]
    simp -implicitDefEqProofs only [g1, go_sem, Nat.reduceAdd, Nat.reduceSub, Nat.reduceMul, Nat.reduceMod, Nat.reduceLT, Nat.reduceLeDiff, Nat.reduceEqDiff, Nat.reduceBEq, Nat.reduceDiv, Int.reduceLT, Int.reduceLE, Int.reduceToNat, Int.reduceNeg, Int.reduceEq, ↓reduceIte, reduceCtorEq, ↓reduceDIte]
  | true =>
    rw [hv] at g1
    cases hw : validU uses with
    | false =>
      rw [hw] at g2
      rw [if_neg (by simp [fair, hw])]
      simp -implicitDefEqProofs only [g1, g2, go_sem, Nat.reduceAdd, Nat.reduceSub, Nat.reduceMul, Nat.reduceMod, Nat.reduceLT, Nat.reduceLeDiff, Nat.reduceEqDiff, Nat.reduceBEq, Nat.reduceDiv, Int.reduceLT, Int.reduceLE, Int.reduceToNat, Int.reduceNeg, Int.reduceEq, ↓reduceIte, reduceCtorEq, ↓reduceDIte]
    | true =>
      rw [hw] at g2
      have hf : fair hit miss uses = true := by simp [fair, hv, hw]
      have g3 := call_imi hit miss hv uses (by have := (fair_len hf).2; omega)
      rw [if_pos hf]
      simp -implicitDefEqProofs only [g1, g2, g3, go_sem, Nat.reduceAdd, Nat.reduceSub, Nat.reduceMul, Nat.reduceMod, Nat.reduceLT, Nat.reduceLeDiff, Nat.reduceEqDiff, Nat.reduceBEq, Nat.reduceDiv, Int.reduceLT, Int.reduceLE, Int.reduceToNat, Int.reduceNeg, Int.reduceEq, ↓reduceIte, reduceCtorEq, ↓reduceDIte]
/-- Uses, the last one first, each once. -/
def dedL : List Int → List Int
  | [] => []
  | a :: rv => a :: (dedL rv).filter (fun x => decide (x ≠ a))
theorem filter_take (p : Int → Bool) : ∀ (l : List Int) (w : Nat), (l.filter fun x => !p x).length ≤ 1 → (l.filter p).take (w - 1) = ((l.take w).filter p).take (w - 1)
  | [], w, _ => by simp
  | x :: l, 0, _ => by simp
  | x :: l, w + 1, h => by
    by_cases hx : p x = true
    · have h' : (l.filter fun x => !p x).length ≤ 1 := by simpa [List.filter_cons, hx] using h
      cases w with
      | zero => simp
      | succ v =>
        have ih := filter_take p l (v + 1) h'
        simp only [Nat.add_sub_cancel] at ih ⊢
        rw [List.filter_cons_of_pos hx, List.take_succ_cons, List.take_succ_cons, List.filter_cons_of_pos hx, List.take_succ_cons, ih]
    · have h' : (l.filter fun x => !p x).length = 0 := by
        rw [List.filter_cons_of_pos (by simpa using hx), List.length_cons] at h
        omega
      have hl : ∀ y ∈ l, p y = true := by
        intro y hy
        have h2 := List.length_eq_zero_iff.1 h'
        rw [List.filter_eq_nil_iff] at h2
        simpa using h2 y hy
      have e1 : l.filter p = l := List.filter_eq_self.2 hl
      have e2 : (l.take w).filter p = l.take w := List.filter_eq_self.2 (fun y hy => hl y (List.mem_of_mem_take hy))
      rw [List.filter_cons_of_neg hx, List.take_succ_cons, List.filter_cons_of_neg hx, e1, e2, Nat.add_sub_cancel, List.take_take, Nat.min_self]
theorem ded_once (a : Int) : ∀ rv : List Int, ((dedL rv).filter fun x => decide (x = a)).length ≤ 1
  | [] => by simp [dedL]
  | b :: rv => by
    have ih := ded_once a rv
    rw [dedL]
    by_cases h : b = a
    · subst h
      rw [List.filter_cons_of_pos (by simp), List.filter_filter]
      have : ((dedL rv).filter fun x => decide (x = b) && decide (x ≠ b)) = [] := by
        rw [List.filter_eq_nil_iff]
        intro x _
        by_cases hx : x = b <;> simp [hx]
      rw [this]
      simp
    · rw [List.filter_cons_of_neg (by simpa using h), List.filter_filter]
      refine Nat.le_trans ?_ ih
      refine List.Sublist.length_le ?_
      have : (fun x => decide (x = a) && decide (x ≠ b)) = fun x => decide (x = a) := by
        funext x
        by_cases hx : x = a
        · subst hx; simp; omega
        · simp [hx]
      rw [this]
      exact List.Sublist.refl _
/-- Most recent ones, as many as there is room for; free room at the end. -/
def keepL (w : Nat) (l : List Int) : List Int := (l ++ List.replicate w (-1)).take w
theorem keepL_length (w : Nat) (l : List Int) : (keepL w l).length = w := by simp [keepL]
theorem keep_step {a : Int} (ha : 0 ≤ a) (rv : List Int) {w : Nat} (hw : 1 ≤ w) : keepL w (dedL (a :: rv)) = a :: ((keepL w (dedL rv)).filter fun x => decide (x ≠ a)).take (w - 1) := by
  obtain ⟨v, rfl⟩ : ∃ v, w = v + 1 := ⟨w - 1, by omega⟩
  have hp : (List.replicate (v + 1) (-1 : Int)).filter (fun x => decide (x ≠ a)) = List.replicate (v + 1) (-1) := by
    rw [List.filter_eq_self]
    intro x hx
    have := (List.mem_replicate.1 hx).2
    simp; omega
  have hq : (List.replicate (v + 1) (-1 : Int)).filter (fun x => decide (x = a)) = [] := by
    rw [List.filter_eq_nil_iff]
    intro x hx
    have := (List.mem_replicate.1 hx).2
    simp; omega
  have h1 := filter_take (fun x => decide (x ≠ a)) (dedL rv ++ List.replicate (v + 1) (-1)) (v + 1) (by
    have : (fun x : Int => !decide (x ≠ a)) = fun x => decide (x = a) := by funext x; simp
    rw [this, List.filter_append, hq, List.append_nil]
    exact ded_once a rv)
  rw [List.filter_append, hp] at h1
  unfold keepL
  rw [dedL, List.cons_append, List.take_succ_cons, ← h1, Nat.add_sub_cancel]
/-- All ages in order, and with one of them moved to the front. -/
def ascL (w : Nat) : List Int := (List.range w).map fun (k : Nat) => (k : Int)
def mvF (w i : Nat) : List Int := (i : Int) :: ((List.range w).filter fun k => decide (k ≠ i)).map fun (k : Nat) => (k : Int)
theorem drop_at : ∀ (now : List Int) (i : Nat), ((List.range now.length).filter fun k => decide (k ≠ i)).map (fun k => now.getD k 0) = now.eraseIdx i
  | [], i => by simp
  | x :: xs, 0 => by
    have h0 : ((List.range xs.length).map Nat.succ).filter (fun k => decide (k ≠ 0)) = (List.range xs.length).map Nat.succ := by
      rw [List.filter_eq_self]
      intro k hk
      obtain ⟨j, _, rfl⟩ := List.mem_map.1 hk
      simp
    rw [List.length_cons, List.range_succ_eq_map, List.filter_cons_of_neg (by simp), h0, List.map_map]
    simp only [List.eraseIdx_cons_zero]
    apply List.ext_getElem
    · simp
    · intro k h1 h2
      simp [List.getElem?_eq_getElem h2]
  | x :: xs, i + 1 => by
    have ih := drop_at xs i
    rw [List.length_cons, List.range_succ_eq_map, List.filter_cons_of_pos (by simp), List.filter_map, List.map_cons, List.map_map, List.eraseIdx_cons_succ, ← ih]
    congr 1
    have : ((fun k => decide (k ≠ i + 1)) ∘ Nat.succ) = fun k => decide (k ≠ i) := by funext k; simp
    rw [this]
    rfl
theorem perm_mv {now : List Int} {w : Nat} (h : now.length = w) (i : Nat) : perm now (mvF w i) = now.getD i 0 :: now.eraseIdx i := by
  subst h
  rw [← drop_at, perm, mvF, List.map_cons, List.map_map, Int.toNat_natCast]
  rfl
theorem erase_filter {a : Int} : ∀ (now : List Int) (i : Nat), now[i]? = some a → (now.filter fun x => decide (x = a)).length ≤ 1 → now.eraseIdx i = now.filter fun x => decide (x ≠ a)
  | [], i, h, _ => by simp at h
  | x :: xs, 0, h, h1 => by
    have hx : x = a := by simpa using h
    rw [List.filter_cons_of_pos (by simpa using hx), List.length_cons] at h1
    have h0 := List.length_eq_zero_iff.1 (Nat.le_zero.1 (Nat.le_of_succ_le_succ h1))
    rw [List.filter_eq_nil_iff] at h0
    rw [List.eraseIdx_cons_zero, List.filter_cons_of_neg (by simpa using hx), eq_comm, List.filter_eq_self]
    intro y hy
    have := h0 y hy
    simpa using this
  | x :: xs, i + 1, h, h1 => by
    have h : xs[i]? = some a := by simpa using h
    have hm : a ∈ xs := List.mem_of_getElem? h
    have hx : x ≠ a := by
      intro e
      rw [List.filter_cons_of_pos (by simpa using e), List.length_cons] at h1
      have h0 := List.length_eq_zero_iff.1 (Nat.le_zero.1 (Nat.le_of_succ_le_succ h1))
      rw [List.filter_eq_nil_iff] at h0
      exact absurd (h0 a hm) (by simp)
    rw [List.filter_cons_of_neg (by simpa using hx)] at h1
    rw [List.eraseIdx_cons_succ, erase_filter xs i h h1, List.filter_cons_of_pos (by simpa using hx)]
theorem last_out {now : List Int} {w : Nat} (h : now.length = w) (hw : 1 ≤ w) (a : Int) : perm (now.set (w - 1) a) (mvF w (w - 1)) = a :: now.take (w - 1) := by
  rw [perm_mv (by rw [List.length_set]; exact h)]
  congr 1
  · have : w - 1 < (now.set (w - 1) a).length := by rw [List.length_set]; omega
    rw [List.getD, List.getElem?_eq_getElem this]
    simp
  · apply List.ext_getElem
    · rw [List.length_eraseIdx, List.length_set, List.length_take]
      split <;> omega
    · intro k h1 h2
      rw [List.length_take] at h2
      rw [List.getElem_eraseIdx]
      have hk : k < w - 1 := by omega
      simp only [dif_pos hk, List.getElem_take]
      rw [List.getElem_set_ne (by omega)]
def lruH (w : Nat) : List (List Int) := (List.range w).map fun i => mvF w i
theorem lru_step {now : List Int} {w : Nat} (h : now.length = w) (hw : 1 ≤ w) (a : Int) (h1 : (now.filter fun x => decide (x = a)).length ≤ 1) : (stepC (lruH w) (mvF w (w - 1)) now a).1 = a :: (now.filter fun x => decide (x ≠ a)).take (w - 1) := by
  unfold stepC
  cases hg : ageOf a now with
  | some i =>
    simp only
    unfold ageOf at hg
    rw [List.findIdx?_eq_some_iff_getElem] at hg
    obtain ⟨hi, h2, _⟩ := hg
    have h2 : now[i] = a := by simpa using h2
    have e : (lruH w).getD i [] = mvF w i := by
      unfold lruH
      rw [List.getD, List.getElem?_map, List.getElem?_range (by omega)]
      rfl
    have hl := List.length_eraseIdx_of_lt hi
    have e2 := erase_filter now i (by rw [List.getElem?_eq_getElem hi, h2]) h1
    have e3 : now.getD i 0 = a := by rw [List.getD, List.getElem?_eq_getElem hi]; exact h2
    rw [e, perm_mv h, e3, ← e2, List.take_of_length_le (by omega)]
  | none =>
    simp only
    unfold ageOf at hg
    rw [List.findIdx?_eq_none_iff] at hg
    have e : now.filter (fun x => decide (x ≠ a)) = now := by
      rw [List.filter_eq_self]
      intro x hx
      have := hg x hx
      simpa using this
    rw [e, h, last_out h hw]
theorem keep_once {a : Int} (ha : 0 ≤ a) (w : Nat) (rv : List Int) : ((keepL w (dedL rv)).filter fun x => decide (x = a)).length ≤ 1 := by
  have h1 : ((dedL rv ++ List.replicate w (-1)).filter fun x => decide (x = a)).length ≤ 1 := by
    have hq : (List.replicate w (-1 : Int)).filter (fun x => decide (x = a)) = [] := by
      rw [List.filter_eq_nil_iff]
      intro x hx
      have := (List.mem_replicate.1 hx).2
      simp; omega
    rw [List.filter_append, hq, List.append_nil]
    exact ded_once a rv
  exact Nat.le_trans (List.Sublist.length_le (List.Sublist.filter _ (List.take_sublist _ _))) h1
theorem keep_empty (w : Nat) : keepL w (dedL []) = List.replicate w (-1) := by simp [keepL, dedL]
end Go.Proofs.Ytjcldkfgpifebaa.PI
