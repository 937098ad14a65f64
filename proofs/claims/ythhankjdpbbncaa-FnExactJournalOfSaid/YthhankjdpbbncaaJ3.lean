/- Journals: what the program writes. -/
import Derived.Test.YthhankjdpbbncaaJ2
namespace Go.Proofs.Ythhankjdpbbncaa.PI
open Go Go.Q
set_option maxRecDepth 100000
set_option maxHeartbeats 4000000
set_option linter.unusedSimpArgs false

theorem loop_imp (ls : List (List UInt8)) (hn : ls.length < 1000000000) (hx : ∀ x ∈ ls, x.length < 100000000) : ∀ (rest pre : List (List UInt8)) (prev out : List UInt8), ls = pre ++ rest → prev.length < 1000 → out.length ≤ 4000 →
    (∃ o p, jrun prev out rest = some o ∧ loopOf pr 15 0 ⟨[(4, .op 256 0), (5, T prev), (8, .d (.slice .str) (ls.map mkS)), (9, I ls.length), (10, I pre.length)], [(256, .bld false 71 5 (mkS out))]⟩ =
      some (.exit 0, ⟨[(4, .op 256 0), (5, T p), (8, .d (.slice .str) (ls.map mkS)), (9, I ls.length), (10, I ls.length)], [(256, .bld false 71 5 (mkS o))]⟩)) ∨
    (jrun prev out rest = none ∧ ∃ y, loopOf pr 15 0 ⟨[(4, .op 256 0), (5, T prev), (8, .d (.slice .str) (ls.map mkS)), (9, I ls.length), (10, I pre.length)], [(256, .bld false 71 5 (mkS out))]⟩ =
      some (.ret, ⟨[(2, T []), (3, B false)], [(256, .bld false 71 5 (mkS y))]⟩))
  | [], pre, prev, out, h, _, _ => by
    have hp : ls.length = pre.length := by rw [h]; simp
    refine .inl ⟨out, prev, rfl, ?_⟩
    rw [loop_eq pr 15 0 _ Try.f15 fn_15 _ rfl _ ann_15 _ rfl]
    simp -implicitDefEqProofs only [hp, Int.lt_irrefl, go_sem, Nat.reduceAdd, Nat.reduceSub, Nat.reduceMul, Nat.reduceMod, Nat.reduceLT, Nat.reduceLeDiff, Nat.reduceEqDiff, Nat.reduceBEq, Nat.reduceDiv, Int.reduceLT, Int.reduceLE, Int.reduceToNat, Int.reduceNeg, Int.reduceEq, ↓reduceIte, reduceCtorEq, ↓reduceDIte]
  | x :: rest, pre, prev, out, h, hpv, ho => by
    have hp : ls.length = pre.length + (rest.length + 1) := by rw [h]; simp
    have hlt0 : pre.length < ls.length := by omega
    have hlt : pre.length < (ls.map mkS).length := by rw [List.length_map]; omega
    have hg : (ls.map mkS).getD pre.length (mkS []) = mkS x := by rw [h]; simp
    have hxl := hx x (by rw [h]; simp)
    have hlet : (letters (prev ++ x)).length = 2 := rfl
    have h50 := call_44 (prev ++ x) (by rw [List.length_append]; omega)
    have hs : ¬ 9223372036854775807 < ((prev.length + x.length : Nat) : Int) := by omega
    have hs1 : ¬ 9223372036854775807 < (((letters (prev ++ x)).length + 1 : Nat) : Int) := by rw [hlet]; omega
    have hs2 : ¬ 9223372036854775807 < (((letters (prev ++ x) ++ [32]).length + x.length : Nat) : Int) := by simp [hlet]; omega
    have hs3 : ¬ 9223372036854775807 < (((letters (prev ++ x) ++ [32] ++ x).length + 1 : Nat) : Int) := by simp [hlet]; omega
    have hws := call_ws out (letters (prev ++ x) ++ [32] ++ x ++ [10]) (by simp) (by simp [hlet]; omega)
    have hbl := call_bl (out ++ (letters (prev ++ x) ++ [32] ++ x ++ [10]))
    have hh := call_has x 10
    have hw := wrap_succ hlt0 (show ls.length < 1000000000000000000 by omega)
    by_cases hc : 10 ∈ x
    · refine .inr ⟨by simp only [jrun, hc, true_or, if_true], out ++ entry prev x, ?_⟩
      rw [decide_eq_true hc] at hh
      rw [loop_eq pr 15 0 _ Try.f15 fn_15 _ rfl _ ann_15 _ rfl]
      simp -implicitDefEqProofs only [lt_cast hlt, lt_cast hlt0, List.length_map, zero_le_cast, Int.toNat_natCast, hg, fa hs, fa hs1, fa hs2, fa hs3, h50, hws, hbl, hh, gt_iff_lt, go_sem, Nat.reduceAdd, Nat.reduceSub, Nat.reduceMul, Nat.reduceMod, Nat.reduceLT, Nat.reduceLeDiff, Nat.reduceEqDiff, Nat.reduceBEq, Nat.reduceDiv, Int.reduceLT, Int.reduceLE, Int.reduceToNat, Int.reduceNeg, Int.reduceEq, ↓reduceIte, reduceCtorEq, ↓reduceDIte]
      rfl
    · rw [decide_eq_false hc] at hh
      by_cases h4 : 4000 < (out ++ entry prev x).length
      · refine .inr ⟨by simp only [jrun, h4, or_true, if_true], out ++ entry prev x, ?_⟩
        have h4' : (4000 : Int) < ((out ++ (letters (prev ++ x) ++ [32] ++ x ++ [10])).length : Int) := by
          have : 4000 < (out ++ (letters (prev ++ x) ++ [32] ++ x ++ [10])).length := h4
          omega
        rw [loop_eq pr 15 0 _ Try.f15 fn_15 _ rfl _ ann_15 _ rfl]
        simp -implicitDefEqProofs only [lt_cast hlt, lt_cast hlt0, List.length_map, zero_le_cast, Int.toNat_natCast, hg, fa hs, fa hs1, fa hs2, fa hs3, h50, hws, hbl, hh, gt_iff_lt, tr h4', go_sem, Nat.reduceAdd, Nat.reduceSub, Nat.reduceMul, Nat.reduceMod, Nat.reduceLT, Nat.reduceLeDiff, Nat.reduceEqDiff, Nat.reduceBEq, Nat.reduceDiv, Int.reduceLT, Int.reduceLE, Int.reduceToNat, Int.reduceNeg, Int.reduceEq, ↓reduceIte, reduceCtorEq, ↓reduceDIte]
        rfl
      · have hj : jrun prev out (x :: rest) = jrun (letters (prev ++ x)) (out ++ entry prev x) rest := by simp only [jrun, hc, h4, or_self, if_false]
        rw [hj]
        have ih := loop_imp ls hn hx rest (pre ++ [x]) (letters (prev ++ x)) (out ++ entry prev x) (by rw [h]; simp) (by rw [hlet]; omega) (by omega)
        have h4' : ¬ (4000 : Int) < ((out ++ (letters (prev ++ x) ++ [32] ++ x ++ [10])).length : Int) := by
          have : ¬ 4000 < (out ++ (letters (prev ++ x) ++ [32] ++ x ++ [10])).length := h4
          omega
        have e1 : (pre ++ [x]).length = pre.length + 1 := by simp
        rw [e1] at ih
        have step : loopOf pr 15 0 ⟨[(4, .op 256 0), (5, T prev), (8, .d (.slice .str) (ls.map mkS)), (9, I ls.length), (10, I pre.length)], [(256, .bld false 71 5 (mkS out))]⟩ = loopOf pr 15 0 ⟨[(4, .op 256 0), (5, T (letters (prev ++ x))), (8, .d (.slice .str) (ls.map mkS)), (9, I ls.length), (10, I ((pre.length + 1 : Nat) : Int))], [(256, .bld false 71 5 (mkS (out ++ entry prev x)))]⟩ := by
          rw [loop_eq pr 15 0 _ Try.f15 fn_15 _ rfl _ ann_15 _ rfl]
          simp -implicitDefEqProofs only [lt_cast hlt, lt_cast hlt0, List.length_map, zero_le_cast, Int.toNat_natCast, hg, fa hs, fa hs1, fa hs2, fa hs3, h50, hws, hbl, hh, gt_iff_lt, fa h4', hw, go_sem, Nat.reduceAdd, Nat.reduceSub, Nat.reduceMul, Nat.reduceMod, Nat.reduceLT, Nat.reduceLeDiff, Nat.reduceEqDiff, Nat.reduceBEq, Nat.reduceDiv, Int.reduceLT, Int.reduceLE, Int.reduceToNat, Int.reduceNeg, Int.reduceEq, ↓reduceIte, reduceCtorEq, ↓reduceDIte]
          rfl
        rw [step]
        exact ih
theorem call_imp (ls : List (List UInt8)) (hn : ls.length < 1000000000) (hx : ∀ x ∈ ls, x.length < 100000000) : callOf pr 15 [.d (.slice .str) (ls.map mkS)] [] = some (match jrun [] [] ls with | some o => .tuple [T o, B true] | none => .tuple [T [], B false], []) := by
  rcases loop_imp ls hn hx ls [] [] [] rfl (by simp) (by simp) with ⟨o, p, hj, h⟩ | ⟨hj, y, h⟩
  · have h : loopOf pr 15 0 ⟨[(4, .op 256 0), (5, T []), (8, .d (.slice .str) (ls.map mkS)), (9, I ls.length), (10, I 0)], [(256, .bld false 71 5 (mkS []))]⟩ = _ := h
    have hs := call_bs o
    rw [hj, call_eq pr 15 _ _ Try.f15 fn_15 _ rfl _ ann_15 rfl]
    simp -implicitDefEqProofs only [h, hs, List.length_map, go_sem, Nat.reduceAdd, Nat.reduceSub, Nat.reduceMul, Nat.reduceMod, Nat.reduceLT, Nat.reduceLeDiff, Nat.reduceEqDiff, Nat.reduceBEq, Nat.reduceDiv, Int.reduceLT, Int.reduceLE, Int.reduceToNat, Int.reduceNeg, Int.reduceEq, ↓reduceIte, reduceCtorEq, ↓reduceDIte]
  · have h : loopOf pr 15 0 ⟨[(4, .op 256 0), (5, T []), (8, .d (.slice .str) (ls.map mkS)), (9, I ls.length), (10, I 0)], [(256, .bld false 71 5 (mkS []))]⟩ = _ := h
    rw [hj, call_eq pr 15 _ _ Try.f15 fn_15 _ rfl _ ann_15 rfl]
    simp -implicitDefEqProofs only [h, List.length_map, go_sem, Nat.reduceAdd, Nat.reduceSub, Nat.reduceMul, Nat.reduceMod, Nat.reduceLT, Nat.reduceLeDiff, Nat.reduceEqDiff, Nat.reduceBEq, Nat.reduceDiv, Int.reduceLT, Int.reduceLE, Int.reduceToNat, Int.reduceNeg, Int.reduceEq, ↓reduceIte, reduceCtorEq, ↓reduceDIte]
end Go.Proofs.Ythhankjdpbbncaa.PI
