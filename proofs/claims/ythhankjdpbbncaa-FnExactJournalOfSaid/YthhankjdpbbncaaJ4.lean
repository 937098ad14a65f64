/- Journals: what the reference writes. -/
import Derived.Test.YthhankjdpbbncaaJ3
namespace Go.Proofs.Ythhankjdpbbncaa.PI
open Go Go.Q
set_option maxRecDepth 100000
set_option maxHeartbeats 4000000
set_option linter.unusedSimpArgs false

/-- The journal of all lines behind what there is. -/
def jall : List UInt8 → List UInt8 → List (List UInt8) → List UInt8
  | _, out, [] => out
  | prev, out, x :: xs => jall (letters (prev ++ x)) (out ++ entry prev x) xs
theorem jrun_all : ∀ (xs : List (List UInt8)) (prev out o : List UInt8), jrun prev out xs = some o → o = jall prev out xs ∧ (∀ x ∈ xs, ¬ 10 ∈ x) ∧ (out.length ≤ 4000 → o.length ≤ 4000)
  | [], prev, out, o, h => by cases h; exact ⟨rfl, by simp, id⟩
  | x :: xs, prev, out, o, h => by
    simp only [jrun] at h
    split at h
    · cases h
    · rename_i hc
      simp only [not_or] at hc
      obtain ⟨h1, h2, h3⟩ := jrun_all xs _ _ o h
      refine ⟨h1, fun y hy => ?_, fun _ => h3 (by omega)⟩
      rcases List.mem_cons.1 hy with rfl | hy
      · exact hc.1
      · exact h2 y hy
theorem jall_length : ∀ (xs : List (List UInt8)) (prev out : List UInt8), out.length ≤ (jall prev out xs).length
  | [], _, out => Nat.le_refl _
  | x :: xs, prev, out => by
    have := jall_length xs (letters (prev ++ x)) (out ++ entry prev x)
    simp only [jall, List.length_append] at this ⊢
    omega
/-- The loop over a line's bytes. -/
theorem loop_chk (ls : List (List UInt8)) (k : Nat) (x : List UInt8) (hk : k < ls.length) (hg : (ls.map mkS).getD k (mkS []) = mkS x) (hxl : x.length < 100000000) (tot : Nat) : ∀ (suf pre : List UInt8), x = pre ++ suf →
    loopOf pr 13 1 ⟨[(0, .d (.slice .str) (ls.map mkS)), (4, I tot), (5, I k), (6, I pre.length)], []⟩ = if 10 ∈ suf then some (.ret, ⟨[(2, T []), (3, B false)], []⟩) else some (.exit 2, ⟨[(0, .d (.slice .str) (ls.map mkS)), (4, I tot), (5, I k), (6, I x.length)], []⟩)
  | [], pre, h => by
    have hp : x.length = pre.length := by rw [h]; simp
    have hlt : k < (ls.map mkS).length := by rw [List.length_map]; exact hk
    rw [loop_eq pr 13 1 _ Try.f13 fn_13 _ rfl _ ann_13 _ rfl]
    simp -implicitDefEqProofs only [lt_cast hlt, lt_cast hk, List.length_map, zero_le_cast, Int.toNat_natCast, hg, hp, Int.lt_irrefl, List.not_mem_nil, go_sem, Nat.reduceAdd, Nat.reduceSub, Nat.reduceMul, Nat.reduceMod, Nat.reduceLT, Nat.reduceLeDiff, Nat.reduceEqDiff, Nat.reduceBEq, Nat.reduceDiv, Int.reduceLT, Int.reduceLE, Int.reduceToNat, Int.reduceNeg, Int.reduceEq, ↓reduceIte, reduceCtorEq, ↓reduceDIte]
  | b :: suf, pre, h => by
    have hp : x.length = pre.length + (suf.length + 1) := by rw [h]; simp
    have hlx : pre.length < x.length := by omega
    have hgx : x.getD pre.length 0 = b := by rw [h]; simp
    have hlt : k < (ls.map mkS).length := by rw [List.length_map]; exact hk
    have hw := wrap_succ hlx (show x.length < 1000000000000000000 by omega)
    have ih := loop_chk ls k x hk hg hxl tot suf (pre ++ [b]) (by rw [h]; simp)
    have e1 : (pre ++ [b]).length = pre.length + 1 := by simp
    rw [e1] at ih
    rw [loop_eq pr 13 1 _ Try.f13 fn_13 _ rfl _ ann_13 _ rfl]
    by_cases hb : b = 10
    · subst hb
      simp -implicitDefEqProofs only [lt_cast hlt, lt_cast hk, lt_cast hlx, List.length_map, zero_le_cast, Int.toNat_natCast, hg, hgx, List.mem_cons, true_or, tr (show (((10 : UInt8).toNat : Nat) : Int) = 10 by rfl), go_sem, Nat.reduceAdd, Nat.reduceSub, Nat.reduceMul, Nat.reduceMod, Nat.reduceLT, Nat.reduceLeDiff, Nat.reduceEqDiff, Nat.reduceBEq, Nat.reduceDiv, Int.reduceLT, Int.reduceLE, Int.reduceToNat, Int.reduceNeg, Int.reduceEq, ↓reduceIte, reduceCtorEq, ↓reduceDIte]
    · have hb2 : ¬ ((b.toNat : Nat) : Int) = 10 := fun e => hb (by
        apply UInt8.toNat_inj.1
        show b.toNat = 10
        omega)
      have hm : (10 ∈ b :: suf) = (10 ∈ suf) := by
        have : ¬ 10 = b := fun e => hb e.symm
        simp [this]
      simp only [hm]
      simp -implicitDefEqProofs only [lt_cast hlt, lt_cast hk, lt_cast hlx, List.length_map, zero_le_cast, Int.toNat_natCast, hg, hgx, fa hb2, hw, go_sem, Nat.reduceAdd, Nat.reduceSub, Nat.reduceMul, Nat.reduceMod, Nat.reduceLT, Nat.reduceLeDiff, Nat.reduceEqDiff, Nat.reduceBEq, Nat.reduceDiv, Int.reduceLT, Int.reduceLE, Int.reduceToNat, Int.reduceNeg, Int.reduceEq, ↓reduceIte, reduceCtorEq, ↓reduceDIte]
      exact ih
theorem loop_spec (ls : List (List UInt8)) (hn : ls.length < 1000000000) (hx : ∀ x ∈ ls, x.length < 100000000) : ∀ (rest pre : List (List UInt8)) (prev out : List UInt8), ls = pre ++ rest → out.length ≤ 4000 →
    loopOf pr 13 0 ⟨[(0, .d (.slice .str) (ls.map mkS)), (4, I out.length), (5, I pre.length)], []⟩ = match jrun prev out rest with
      | some o => some (.exit 0, ⟨[(0, .d (.slice .str) (ls.map mkS)), (4, I o.length), (5, I ls.length)], []⟩)
      | none => some (.ret, ⟨[(2, T []), (3, B false)], []⟩)
  | [], pre, prev, out, h, _ => by
    have hp : ls.length = pre.length := by rw [h]; simp
    rw [loop_eq pr 13 0 _ Try.f13 fn_13 _ rfl _ ann_13 _ rfl]
    simp -implicitDefEqProofs only [hp, List.length_map, Int.lt_irrefl, go_sem, Nat.reduceAdd, Nat.reduceSub, Nat.reduceMul, Nat.reduceMod, Nat.reduceLT, Nat.reduceLeDiff, Nat.reduceEqDiff, Nat.reduceBEq, Nat.reduceDiv, Int.reduceLT, Int.reduceLE, Int.reduceToNat, Int.reduceNeg, Int.reduceEq, ↓reduceIte, reduceCtorEq, ↓reduceDIte]
    simp only [jrun, hp]
  | x :: rest, pre, prev, out, h, ho => by
    have hp : ls.length = pre.length + (rest.length + 1) := by rw [h]; simp
    have hlt0 : pre.length < ls.length := by omega
    have hlt : pre.length < (ls.map mkS).length := by rw [List.length_map]; omega
    have hg : (ls.map mkS).getD pre.length (mkS []) = mkS x := by rw [h]; simp
    have hxl := hx x (by rw [h]; simp)
    have hw1 : IntKind.i64.wrap ((x.length : Int) + 4) = ((x.length + 4 : Nat) : Int) := by rw [wrap_i] <;> omega
    have hw2 : IntKind.i64.wrap ((out.length : Int) + ((x.length + 4 : Nat) : Int)) = ((out.length + (x.length + 4) : Nat) : Int) := by rw [wrap_i] <;> omega
    have hw := wrap_succ hlt0 (show ls.length < 1000000000000000000 by omega)
    have hlen : (out ++ entry prev x).length = out.length + (x.length + 4) := by rw [List.length_append, entry_length]
    have hc := loop_chk ls pre.length x hlt0 hg hxl (out.length + (x.length + 4)) x [] rfl
    have hc : loopOf pr 13 1 ⟨[(0, .d (.slice .str) (ls.map mkS)), (4, I ((out.length + (x.length + 4) : Nat) : Int)), (5, I pre.length), (6, I 0)], []⟩ = _ := hc
    rw [loop_eq pr 13 0 _ Try.f13 fn_13 _ rfl _ ann_13 _ rfl]
    by_cases h10 : 10 ∈ x
    · rw [if_pos h10] at hc
      have hj : jrun prev out (x :: rest) = none := by simp only [jrun, h10, true_or, if_true]
      rw [hj]
      simp -implicitDefEqProofs only [lt_cast hlt, lt_cast hlt0, List.length_map, zero_le_cast, Int.toNat_natCast, hg, hw1, hw2, hc, go_sem, Nat.reduceAdd, Nat.reduceSub, Nat.reduceMul, Nat.reduceMod, Nat.reduceLT, Nat.reduceLeDiff, Nat.reduceEqDiff, Nat.reduceBEq, Nat.reduceDiv, Int.reduceLT, Int.reduceLE, Int.reduceToNat, Int.reduceNeg, Int.reduceEq, ↓reduceIte, reduceCtorEq, ↓reduceDIte]
    · rw [if_neg h10] at hc
      by_cases h4 : 4000 < out.length + (x.length + 4)
      · have hj : jrun prev out (x :: rest) = none := by simp only [jrun, hlen, h4, or_true, if_true]
        rw [hj]
        simp -implicitDefEqProofs only [lt_cast hlt, lt_cast hlt0, List.length_map, zero_le_cast, Int.toNat_natCast, hg, hw1, hw2, hc, gt_iff_lt, tr (show (4000 : Int) < ((out.length + (x.length + 4) : Nat) : Int) by omega), go_sem, Nat.reduceAdd, Nat.reduceSub, Nat.reduceMul, Nat.reduceMod, Nat.reduceLT, Nat.reduceLeDiff, Nat.reduceEqDiff, Nat.reduceBEq, Nat.reduceDiv, Int.reduceLT, Int.reduceLE, Int.reduceToNat, Int.reduceNeg, Int.reduceEq, ↓reduceIte, reduceCtorEq, ↓reduceDIte]
      · have hj : jrun prev out (x :: rest) = jrun (letters (prev ++ x)) (out ++ entry prev x) rest := by simp only [jrun, hlen, h10, h4, or_self, if_false]
        rw [hj]
        have ih := loop_spec ls hn hx rest (pre ++ [x]) (letters (prev ++ x)) (out ++ entry prev x) (by rw [h]; simp) (by omega)
        have e1 : (pre ++ [x]).length = pre.length + 1 := by simp
        rw [e1, hlen] at ih
        simp -implicitDefEqProofs only [lt_cast hlt, lt_cast hlt0, List.length_map, zero_le_cast, Int.toNat_natCast, hg, hw1, hw2, hc, gt_iff_lt, fa (show ¬ (4000 : Int) < ((out.length + (x.length + 4) : Nat) : Int) by omega), hw, go_sem, Nat.reduceAdd, Nat.reduceSub, Nat.reduceMul, Nat.reduceMod, Nat.reduceLT, Nat.reduceLeDiff, Nat.reduceEqDiff, Nat.reduceBEq, Nat.reduceDiv, Int.reduceLT, Int.reduceLE, Int.reduceToNat, Int.reduceNeg, Int.reduceEq, ↓reduceIte, reduceCtorEq, ↓reduceDIte]
        exact ih
theorem loop_lj (ls : List (List UInt8)) (hn : ls.length < 1000000000) (hx : ∀ x ∈ ls, x.length < 100000000) : ∀ (rest pre : List (List UInt8)) (prev out : List UInt8), ls = pre ++ rest → prev.length < 1000 → (jall prev out rest).length ≤ 4000 →
    ∃ p, loopOf pr 49 0 ⟨[(0, .d (.slice .str) (ls.map mkS)), (3, T out), (4, T prev), (5, I pre.length)], []⟩ = some (.exit 0, ⟨[(0, .d (.slice .str) (ls.map mkS)), (3, T (jall prev out rest)), (4, T p), (5, I ls.length)], []⟩)
  | [], pre, prev, out, h, _, _ => by
    have hp : ls.length = pre.length := by rw [h]; simp
    refine ⟨prev, ?_⟩
    rw [loop_eq pr 49 0 _ Try.f49 fn_49 _ rfl _ ann_49 _ rfl]
    simp -implicitDefEqProofs only [hp, List.length_map, Int.lt_irrefl, go_sem, Nat.reduceAdd, Nat.reduceSub, Nat.reduceMul, Nat.reduceMod, Nat.reduceLT, Nat.reduceLeDiff, Nat.reduceEqDiff, Nat.reduceBEq, Nat.reduceDiv, Int.reduceLT, Int.reduceLE, Int.reduceToNat, Int.reduceNeg, Int.reduceEq, ↓reduceIte, reduceCtorEq, ↓reduceDIte]
    rfl
  | x :: rest, pre, prev, out, h, hpv, hj => by
    have hp : ls.length = pre.length + (rest.length + 1) := by rw [h]; simp
    have hlt0 : pre.length < ls.length := by omega
    have hlt : pre.length < (ls.map mkS).length := by rw [List.length_map]; omega
    have hg : (ls.map mkS).getD pre.length (mkS []) = mkS x := by rw [h]; simp
    have hxl := hx x (by rw [h]; simp)
    have hlet : (letters (prev ++ x)).length = 2 := rfl
    have hout : out.length ≤ 4000 := Nat.le_trans (jall_length (x :: rest) prev out) hj
    have h90 := call_42 (prev ++ x) (by rw [List.length_append]; omega)
    have hs : ¬ 9223372036854775807 < ((prev.length + x.length : Nat) : Int) := by omega
    have hs1 : ¬ 9223372036854775807 < (((letters (prev ++ x)).length + 1 : Nat) : Int) := by rw [hlet]; omega
    have hs2 : ¬ 9223372036854775807 < (((letters (prev ++ x) ++ [32]).length + x.length : Nat) : Int) := by simp [hlet]; omega
    have hs3 : ¬ 9223372036854775807 < (((letters (prev ++ x) ++ [32] ++ x).length + 1 : Nat) : Int) := by simp [hlet]; omega
    have hs4 : ¬ 9223372036854775807 < ((out.length + (letters (prev ++ x) ++ [32] ++ x ++ [10]).length : Nat) : Int) := by simp [hlet]; omega
    have hw := wrap_succ hlt0 (show ls.length < 1000000000000000000 by omega)
    obtain ⟨p, ih⟩ := loop_lj ls hn hx rest (pre ++ [x]) (letters (prev ++ x)) (out ++ entry prev x) (by rw [h]; simp) (by rw [hlet]; omega) hj
    have e1 : (pre ++ [x]).length = pre.length + 1 := by simp
    rw [e1] at ih
    refine ⟨p, ?_⟩
    rw [loop_eq pr 49 0 _ Try.f49 fn_49 _ rfl _ ann_49 _ rfl]
    simp -implicitDefEqProofs only [lt_cast hlt, lt_cast hlt0, List.length_map, zero_le_cast, Int.toNat_natCast, hg, fa hs, fa hs1, fa hs2, fa hs3, fa hs4, h90, gt_iff_lt, hw, go_sem, Nat.reduceAdd, Nat.reduceSub, Nat.reduceMul, Nat.reduceMod, Nat.reduceLT, Nat.reduceLeDiff, Nat.reduceEqDiff, Nat.reduceBEq, Nat.reduceDiv, Int.reduceLT, Int.reduceLE, Int.reduceToNat, Int.reduceNeg, Int.reduceEq, ↓reduceIte, reduceCtorEq, ↓reduceDIte]
    exact ih
theorem call_lj (ls : List (List UInt8)) (hn : ls.length < 1000000000) (hx : ∀ x ∈ ls, x.length < 100000000) (hj : (jall [] [] ls).length ≤ 4000) : callOf pr 49 [.d (.slice .str) (ls.map mkS)] [] = some (T (jall [] [] ls), []) := by
  obtain ⟨p, h⟩ := loop_lj ls hn hx ls [] [] [] rfl (by simp) hj
  have h : loopOf pr 49 0 ⟨[(0, .d (.slice .str) (ls.map mkS)), (3, T []), (4, T []), (5, I 0)], []⟩ = _ := h
  rw [call_eq pr 49 _ _ Try.f49 fn_49 _ rfl _ ann_49 rfl]
  simp -implicitDefEqProofs only [h, go_sem, Nat.reduceAdd, Nat.reduceSub, Nat.reduceMul, Nat.reduceMod, Nat.reduceLT, Nat.reduceLeDiff, Nat.reduceEqDiff, Nat.reduceBEq, Nat.reduceDiv, Int.reduceLT, Int.reduceLE, Int.reduceToNat, Int.reduceNeg, Int.reduceEq, ↓reduceIte, reduceCtorEq, ↓reduceDIte]
theorem call_spec (ls : List (List UInt8)) (hn : ls.length < 1000000000) (hx : ∀ x ∈ ls, x.length < 100000000) : callOf pr 13 [.d (.slice .str) (ls.map mkS)] [] = some (match jrun [] [] ls with | some o => .tuple [T o, B true] | none => .tuple [T [], B false], []) := by
  have h := loop_spec ls hn hx ls [] [] [] rfl (by simp)
  have h : loopOf pr 13 0 ⟨[(0, .d (.slice .str) (ls.map mkS)), (4, I 0), (5, I 0)], []⟩ = _ := h
  rw [call_eq pr 13 _ _ Try.f13 fn_13 _ rfl _ ann_13 rfl]
  cases hj : jrun [] [] ls with
  | none =>
    rw [hj] at h
    simp -implicitDefEqProofs only [h, go_sem, Nat.reduceAdd, Nat.reduceSub, Nat.reduceMul, Nat.reduceMod, Nat.reduceLT, Nat.reduceLeDiff, Nat.reduceEqDiff, Nat.reduceBEq, Nat.reduceDiv, Int.reduceLT, Int.reduceLE, Int.reduceToNat, Int.reduceNeg, Int.reduceEq, ↓reduceIte, reduceCtorEq, ↓reduceDIte]
  | some o =>
    obtain ⟨h1, h2, h3⟩ := jrun_all ls [] [] o hj
    have h3 := h3 (by simp)
    have hl := call_lj ls hn hx (by rw [← h1]; exact h3)
    rw [← h1] at hl
    rw [hj] at h
    simp -implicitDefEqProofs only [h, hl, go_sem, Nat.reduceAdd, Nat.reduceSub, Nat.reduceMul, Nat.reduceMod, Nat.reduceLT, Nat.reduceLeDiff, Nat.reduceEqDiff, Nat.reduceBEq, Nat.reduceDiv, Int.reduceLT, Int.reduceLE, Int.reduceToNat, Int.reduceNeg, Int.reduceEq, ↓reduceIte, reduceCtorEq, ↓reduceDIte]
end Go.Proofs.Ythhankjdpbbncaa.PI
