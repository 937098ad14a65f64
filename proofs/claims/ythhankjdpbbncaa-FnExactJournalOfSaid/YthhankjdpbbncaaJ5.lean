/- Journals: the law. -/
import Derived.Test.YthhankjdpbbncaaJ4
namespace Go.Proofs.Ythhankjdpbbncaa.PI
open Go Go.Q
set_option maxRecDepth 100000
set_option maxHeartbeats 4000000
set_option linter.unusedSimpArgs false

/-- What is left of a bound behind strings. -/
def szN : List (List UInt8) → Int → Int
  | [], n => n
  | x :: xs, n => if n - x.length < 0 then -1 else szN xs (n - x.length)
theorem szN_pos : ∀ (xs : List (List UInt8)) (n : Int), 0 ≤ n → n ≤ 2000000 → 0 ≤ szN xs n → ∀ x ∈ xs, (x.length : Int) ≤ n
  | [], _, _, _, _, x, hx => by cases hx
  | y :: xs, n, h0, hb, h, x, hx => by
    simp only [szN] at h
    split at h
    · omega
    · rename_i hc
      rcases List.mem_cons.1 hx with rfl | hx
      · omega
      · have := szN_pos xs _ (by omega) (by omega) h x hx
        omega
theorem szN_range : ∀ (xs : List (List UInt8)) (n : Int), 0 ≤ n → -1 ≤ szN xs n ∧ szN xs n ≤ n
  | [], n, h => ⟨by simp only [szN]; omega, by simp only [szN]; omega⟩
  | y :: xs, n, h => by
    simp only [szN]
    split
    · omega
    · have := szN_range xs (n - y.length) (by omega)
      omega
theorem loop_sz (ls : List (List UInt8)) (hn : ls.length < 1000000000) (hx : ∀ x ∈ ls, x.length < 1000000000000000000) : ∀ (rest pre : List (List UInt8)) (n : Int), ls = pre ++ rest → 0 ≤ n → n ≤ 2000000 →
    (0 ≤ szN rest n ∧ loopOf pr 12 0 ⟨[(0, .d (.slice .str) (ls.map mkS)), (1, I n), (5, I pre.length)], []⟩ = some (.exit 0, ⟨[(0, .d (.slice .str) (ls.map mkS)), (1, I (szN rest n)), (5, I ls.length)], []⟩)) ∨
    (szN rest n = -1 ∧ loopOf pr 12 0 ⟨[(0, .d (.slice .str) (ls.map mkS)), (1, I n), (5, I pre.length)], []⟩ = some (.ret, ⟨[(4, I (-1))], []⟩))
  | [], pre, n, h, h0, hb => by
    have hp : ls.length = pre.length := by rw [h]; simp
    refine .inl ⟨h0, ?_⟩
    rw [loop_eq pr 12 0 _ Try.f12 fn_12 _ rfl _ ann_12 _ rfl]
    simp -implicitDefEqProofs only [hp, List.length_map, Int.lt_irrefl, go_sem, Nat.reduceAdd, Nat.reduceSub, Nat.reduceMul, Nat.reduceMod, Nat.reduceLT, Nat.reduceLeDiff, Nat.reduceEqDiff, Nat.reduceBEq, Nat.reduceDiv, Int.reduceLT, Int.reduceLE, Int.reduceToNat, Int.reduceNeg, Int.reduceEq, ↓reduceIte, reduceCtorEq, ↓reduceDIte]
    rfl
  | x :: rest, pre, n, h, h0, hb => by
    have hp : ls.length = pre.length + (rest.length + 1) := by rw [h]; simp
    have hlt0 : pre.length < ls.length := by omega
    have hlt : pre.length < (ls.map mkS).length := by rw [List.length_map]; omega
    have hg : (ls.map mkS).getD pre.length (mkS []) = mkS x := by rw [h]; simp
    have hxl := hx x (by rw [h]; simp)
    have hw1 : IntKind.i64.wrap (n - (x.length : Int)) = n - (x.length : Int) := by rw [wrap_i] <;> omega
    have hw := wrap_succ hlt0 (show ls.length < 1000000000000000000 by omega)
    by_cases hc : n - (x.length : Int) < 0
    · refine .inr ⟨by simp only [szN, hc, if_true], ?_⟩
      rw [loop_eq pr 12 0 _ Try.f12 fn_12 _ rfl _ ann_12 _ rfl]
      simp -implicitDefEqProofs only [lt_cast hlt, lt_cast hlt0, List.length_map, zero_le_cast, Int.toNat_natCast, hg, hw1, tr hc, go_sem, Nat.reduceAdd, Nat.reduceSub, Nat.reduceMul, Nat.reduceMod, Nat.reduceLT, Nat.reduceLeDiff, Nat.reduceEqDiff, Nat.reduceBEq, Nat.reduceDiv, Int.reduceLT, Int.reduceLE, Int.reduceToNat, Int.reduceNeg, Int.reduceEq, ↓reduceIte, reduceCtorEq, ↓reduceDIte]
    · have ih := loop_sz ls hn hx rest (pre ++ [x]) (n - x.length) (by rw [h]; simp) (by omega) (by omega)
      have e1 : (pre ++ [x]).length = pre.length + 1 := by simp
      have e2 : szN (x :: rest) n = szN rest (n - x.length) := by simp only [szN, hc, if_false]
      rw [e1] at ih
      have step : loopOf pr 12 0 ⟨[(0, .d (.slice .str) (ls.map mkS)), (1, I n), (5, I pre.length)], []⟩ = loopOf pr 12 0 ⟨[(0, .d (.slice .str) (ls.map mkS)), (1, I (n - x.length)), (5, I ((pre.length + 1 : Nat) : Int))], []⟩ := by
        rw [loop_eq pr 12 0 _ Try.f12 fn_12 _ rfl _ ann_12 _ rfl]
        simp -implicitDefEqProofs only [lt_cast hlt, lt_cast hlt0, List.length_map, zero_le_cast, Int.toNat_natCast, hg, hw1, fa hc, hw, go_sem, Nat.reduceAdd, Nat.reduceSub, Nat.reduceMul, Nat.reduceMod, Nat.reduceLT, Nat.reduceLeDiff, Nat.reduceEqDiff, Nat.reduceBEq, Nat.reduceDiv, Int.reduceLT, Int.reduceLE, Int.reduceToNat, Int.reduceNeg, Int.reduceEq, ↓reduceIte, reduceCtorEq, ↓reduceDIte]
      rw [e2, step]
      exact ih
theorem call_sz (ls : List (List UInt8)) (hn : ls.length < 1000000000000000000) (hx : ∀ x ∈ ls, x.length < 1000000000000000000) : ∃ n : Int, callOf pr 12 [.d (.slice .str) (ls.map mkS), I 1048576] [] = some (I n, []) ∧ (n < 0 ∨ (0 ≤ n ∧ ls.length ≤ 1048576 ∧ ∀ x ∈ ls, x.length ≤ 1048576)) := by
  have hw1 : IntKind.i64.wrap (1048576 - (ls.length : Int)) = 1048576 - (ls.length : Int) := by rw [wrap_i] <;> omega
  by_cases hc : 1048576 - (ls.length : Int) < 0
  · refine ⟨-1, ?_, .inl (by omega)⟩
    rw [call_eq pr 12 _ _ Try.f12 fn_12 _ rfl _ ann_12 rfl]
    simp -implicitDefEqProofs only [List.length_map, hw1, tr hc, go_sem, Nat.reduceAdd, Nat.reduceSub, Nat.reduceMul, Nat.reduceMod, Nat.reduceLT, Nat.reduceLeDiff, Nat.reduceEqDiff, Nat.reduceBEq, Nat.reduceDiv, Int.reduceLT, Int.reduceLE, Int.reduceToNat, Int.reduceNeg, Int.reduceEq, ↓reduceIte, reduceCtorEq, ↓reduceDIte]
  · have h := loop_sz ls (by omega) hx ls [] (1048576 - ls.length) rfl (by omega) (by omega)
    refine ⟨szN ls (1048576 - ls.length), ?_, ?_⟩
    · rcases h with ⟨h1, h⟩ | ⟨h1, h⟩
      · have h : loopOf pr 12 0 ⟨[(0, .d (.slice .str) (ls.map mkS)), (1, I (1048576 - (ls.length : Int))), (5, I 0)], []⟩ = _ := h
        rw [call_eq pr 12 _ _ Try.f12 fn_12 _ rfl _ ann_12 rfl]
        simp -implicitDefEqProofs only [List.length_map, hw1, fa hc, h, go_sem, Nat.reduceAdd, Nat.reduceSub, Nat.reduceMul, Nat.reduceMod, Nat.reduceLT, Nat.reduceLeDiff, Nat.reduceEqDiff, Nat.reduceBEq, Nat.reduceDiv, Int.reduceLT, Int.reduceLE, Int.reduceToNat, Int.reduceNeg, Int.reduceEq, ↓reduceIte, reduceCtorEq, ↓reduceDIte]
      · have h : loopOf pr 12 0 ⟨[(0, .d (.slice .str) (ls.map mkS)), (1, I (1048576 - (ls.length : Int))), (5, I 0)], []⟩ = _ := h
        rw [h1, call_eq pr 12 _ _ Try.f12 fn_12 _ rfl _ ann_12 rfl]
        simp -implicitDefEqProofs only [List.length_map, hw1, fa hc, h, go_sem, Nat.reduceAdd, Nat.reduceSub, Nat.reduceMul, Nat.reduceMod, Nat.reduceLT, Nat.reduceLeDiff, Nat.reduceEqDiff, Nat.reduceBEq, Nat.reduceDiv, Int.reduceLT, Int.reduceLE, Int.reduceToNat, Int.reduceNeg, Int.reduceEq, ↓reduceIte, reduceCtorEq, ↓reduceDIte]
    · by_cases h0 : 0 ≤ szN ls (1048576 - ls.length)
      · refine .inr ⟨h0, by omega, fun x hx => ?_⟩
        have := szN_pos ls _ (by omega) (by omega) h0 x hx
        omega
      · exact .inl (by omega)
theorem loop_to (xs : List ByteArray) (hb : xs.length < 1000000000) : ∀ (rest pre ys : List ByteArray), xs = pre ++ rest → ys.length = rest.length →
    loopOf pr 14 0 ⟨[(0, .d (.slice .str) xs), (3, .os (.t 448)), (4, I pre.length)], [(448, .arr true false .str (pre ++ ys))]⟩ = some (.exit 0, ⟨[(0, .d (.slice .str) xs), (3, .os (.t 448)), (4, I xs.length)], [(448, .arr true false .str xs)]⟩)
  | [], pre, ys, h, hy => by
    have hp : xs.length = pre.length := by rw [h]; simp
    have hys : ys = [] := List.eq_nil_of_length_eq_zero hy
    subst hys
    rw [loop_eq pr 14 0 _ Try.f14 fn_14 _ rfl _ ann_14 _ rfl]
    simp -implicitDefEqProofs only [hp, Int.lt_irrefl, go_sem, Nat.reduceAdd, Nat.reduceSub, Nat.reduceMul, Nat.reduceMod, Nat.reduceLT, Nat.reduceLeDiff, Nat.reduceEqDiff, Nat.reduceBEq, Nat.reduceDiv, Int.reduceLT, Int.reduceLE, Int.reduceToNat, Int.reduceNeg, Int.reduceEq, ↓reduceIte, reduceCtorEq, ↓reduceDIte]
    simp [h]
  | x :: rest, pre, ys, h, hy => by
    obtain ⟨y, ys, rfl⟩ : ∃ y ys', ys = y :: ys' := by cases ys with | nil => simp at hy | cons y ys => exact ⟨y, ys, rfl⟩
    have hp : xs.length = pre.length + (rest.length + 1) := by rw [h]; simp
    have hlt : pre.length < xs.length := by omega
    have hlt2 : pre.length < (pre ++ y :: ys).length := by simp
    have hg : xs.getD pre.length (mkS []) = x := by rw [h]; simp
    have hset : (pre ++ y :: ys).set pre.length x = pre ++ [x] ++ ys := by simp
    have hw := wrap_succ hlt (show xs.length < 1000000000000000000 by omega)
    have ih := loop_to xs hb rest (pre ++ [x]) ys (by rw [h]; simp) (by simp at hy; omega)
    have e1 : (pre ++ [x]).length = pre.length + 1 := by simp
    rw [e1] at ih
    rw [loop_eq pr 14 0 _ Try.f14 fn_14 _ rfl _ ann_14 _ rfl]
    simp -implicitDefEqProofs only [lt_cast hlt, lt_cast hlt2, zero_le_cast, Int.toNat_natCast, hg, hset, hw, go_sem, Nat.reduceAdd, Nat.reduceSub, Nat.reduceMul, Nat.reduceMod, Nat.reduceLT, Nat.reduceLeDiff, Nat.reduceEqDiff, Nat.reduceBEq, Nat.reduceDiv, Int.reduceLT, Int.reduceLE, Int.reduceToNat, Int.reduceNeg, Int.reduceEq, ↓reduceIte, reduceCtorEq, ↓reduceDIte]
    exact ih
theorem call_to (xs : List ByteArray) (hb : xs.length < 100000000) : callOf pr 14 [.d (.slice .str) xs] [] = some (.os (.t 448), [(448, .arr true false .str xs)]) := by
  have h := loop_to xs (by omega) xs [] (List.replicate xs.length (mkS [])) rfl (by simp)
  have h : loopOf pr 14 0 ⟨[(0, .d (.slice .str) xs), (3, .os (.t 448)), (4, I 0)], [(448, .arr true false .str (List.replicate xs.length (mkS [])))]⟩ = _ := h
  have h1 : (((16 : Nat) : Int) * (xs.length : Int) ≤ 140737488355328) = True := tr (by omega)
  have h2 : ((xs.length : Int) ≤ 9223372036854775807) = True := tr (by omega)
  rw [call_eq pr 14 _ _ Try.f14 fn_14 _ rfl _ ann_14 rfl]
  simp -implicitDefEqProofs only [h, h1, h2, zero_le_cast, Int.le_refl, Int.toNat_natCast, go_sem, Nat.reduceAdd, Nat.reduceSub, Nat.reduceMul, Nat.reduceMod, Nat.reduceLT, Nat.reduceLeDiff, Nat.reduceEqDiff, Nat.reduceBEq, Nat.reduceDiv, Int.reduceLT, Int.reduceLE, Int.reduceToNat, Int.reduceNeg, Int.reduceEq, ↓reduceIte, reduceCtorEq, ↓reduceDIte]
theorem loop_eqs (xs : List (List UInt8)) (hb : xs.length < 1000000000) : ∀ (n k : Nat), k + n = xs.length →
    loopOf pr 16 0 ⟨[(0, .d (.slice .str) (xs.map mkS)), (1, .d (.slice .str) (xs.map mkS)), (5, I k)], []⟩ = some (.exit 0, ⟨[(0, .d (.slice .str) (xs.map mkS)), (1, .d (.slice .str) (xs.map mkS)), (5, I xs.length)], []⟩)
  | 0, k, h => by
    have : k = (xs.map mkS).length := by rw [List.length_map]; omega
    subst this
    rw [loop_eq pr 16 0 _ Try.f16 fn_16 _ rfl _ ann_16 _ rfl]
    simp -implicitDefEqProofs only [Int.lt_irrefl, List.length_map, go_sem, Nat.reduceAdd, Nat.reduceSub, Nat.reduceMul, Nat.reduceMod, Nat.reduceLT, Nat.reduceLeDiff, Nat.reduceEqDiff, Nat.reduceBEq, Nat.reduceDiv, Int.reduceLT, Int.reduceLE, Int.reduceToNat, Int.reduceNeg, Int.reduceEq, ↓reduceIte, reduceCtorEq, ↓reduceDIte]
  | n + 1, k, h => by
    have hlt : k < (xs.map mkS).length := by rw [List.length_map]; omega
    have hlt' : k < xs.length := by omega
    have ih := loop_eqs xs hb n (k + 1) (by omega)
    have hg : (xs.map mkS).getD k (mkS []) = mkS (xs.getD k []) := by rw [getD_of_lt hlt, getD_of_lt hlt']; simp
    rw [loop_eq pr 16 0 _ Try.f16 fn_16 _ rfl _ ann_16 _ rfl]
    simp -implicitDefEqProofs only [lt_cast hlt, zero_le_cast, Int.toNat_natCast, wrap_succ hlt' (show xs.length < 1000000000000000000 by omega), hg, go_sem, Nat.reduceAdd, Nat.reduceSub, Nat.reduceMul, Nat.reduceMod, Nat.reduceLT, Nat.reduceLeDiff, Nat.reduceEqDiff, Nat.reduceBEq, Nat.reduceDiv, Int.reduceLT, Int.reduceLE, Int.reduceToNat, Int.reduceNeg, Int.reduceEq, ↓reduceIte, reduceCtorEq, ↓reduceDIte]
    exact ih
theorem call_eqs (xs : List (List UInt8)) (hb : xs.length < 1000000000) : callOf pr 16 [.d (.slice .str) (xs.map mkS), .d (.slice .str) (xs.map mkS)] [] = some (B true, []) := by
  have h := loop_eqs xs hb xs.length 0 (by omega)
  have h : loopOf pr 16 0 ⟨[(0, .d (.slice .str) (xs.map mkS)), (1, .d (.slice .str) (xs.map mkS)), (5, I 0)], []⟩ = _ := h
  rw [call_eq pr 16 _ _ Try.f16 fn_16 _ rfl _ ann_16 rfl]
  simp -implicitDefEqProofs only [h, go_sem, Nat.reduceAdd, Nat.reduceSub, Nat.reduceMul, Nat.reduceMod, Nat.reduceLT, Nat.reduceLeDiff, Nat.reduceEqDiff, Nat.reduceBEq, Nat.reduceDiv, Int.reduceLT, Int.reduceLE, Int.reduceToNat, Int.reduceNeg, Int.reduceEq, ↓reduceIte, reduceCtorEq, ↓reduceDIte]
theorem law_journal (ls : List (List UInt8)) (hn : ls.length < 1000000000000000000) (hx : ∀ x ∈ ls, x.length < 1000000000000000000) : callOf pr 3 [.d (.slice .str) (ls.map mkS)] [] = some (B true, []) := by
  obtain ⟨n, hs, hc⟩ := call_sz ls hn hx
  rw [call_eq pr 3 _ _ Try.f3 fn_3 _ rfl _ ann_3 rfl]
  rcases hc with hc | ⟨h0, h1, h2⟩
  · simp -implicitDefEqProofs only [hs, tr hc, go_sem, Nat.reduceAdd, Nat.reduceSub, Nat.reduceMul, Nat.reduceMod, Nat.reduceLT, Nat.reduceLeDiff, Nat.reduceEqDiff, Nat.reduceBEq, Nat.reduceDiv, Int.reduceLT, Int.reduceLE, Int.reduceToNat, Int.reduceNeg, Int.reduceEq, ↓reduceIte, reduceCtorEq, ↓reduceDIte]
  · have hto := call_to (ls.map mkS) (by rw [List.length_map]; omega)
    have hsp := call_spec ls (by omega) (fun x hx => by have := h2 x hx; omega)
    have him := call_imp ls (by omega) (fun x hx => by have := h2 x hx; omega)
    have heq := call_eqs ls (by omega)
    cases hj : jrun [] [] ls with
    | none =>
      rw [hj] at hsp him
      simp -implicitDefEqProofs only [hs, fa (show ¬ n < 0 by omega), hto, hsp, him, heq, decide_true, BEq.rfl, go_sem, Nat.reduceAdd, Nat.reduceSub, Nat.reduceMul, Nat.reduceMod, Nat.reduceLT, Nat.reduceLeDiff, Nat.reduceEqDiff, Nat.reduceBEq, Nat.reduceDiv, Int.reduceLT, Int.reduceLE, Int.reduceToNat, Int.reduceNeg, Int.reduceEq, ↓reduceIte, reduceCtorEq, ↓reduceDIte]
    | some o =>
      rw [hj] at hsp him
      simp -implicitDefEqProofs only [hs, fa (show ¬ n < 0 by omega), hto, hsp, him, heq, decide_true, BEq.rfl, go_sem, Nat.reduceAdd, Nat.reduceSub, Nat.reduceMul, Nat.reduceMod, Nat.reduceLT, Nat.reduceLeDiff, Nat.reduceEqDiff, Nat.reduceBEq, Nat.reduceDiv, Int.reduceLT, Int.reduceLE, Int.reduceToNat, Int.reduceNeg, Int.reduceEq, ↓reduceIte, reduceCtorEq, ↓reduceDIte]
end Go.Proofs.Ythhankjdpbbncaa.PI
