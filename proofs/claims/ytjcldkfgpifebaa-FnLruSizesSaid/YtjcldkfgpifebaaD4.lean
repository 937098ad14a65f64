/- Draws. -/
import Derived.Test.YtjcldkfgpifebaaN3
import Derived.Test.YtjcldkfgpifebaaV2
namespace Go.Proofs.Ytjcldkfgpifebaa.PI
open Go Go.Q
set_option maxRecDepth 100000
set_option maxHeartbeats 4000000
set_option linter.unusedSimpArgs false
set_option linter.unusedVariables false
abbrev BY (bs : List Int) : AV := .d (.slice (.int .u8)) bs
abbrev SRC (bs : List Int) (at_ : Nat) (seed : Int) : Heap := [(1000000, .box [BY bs, I at_, .d (.int .u64) seed])]
def okBy (bs : List Int) : Prop := bs.length ≤ 1000000000 ∧ ∀ x ∈ bs, 0 ≤ x ∧ x ≤ 255
theorem and_byte (y : Int) : 0 ≤ bitsOf .and .u64 y 255 ∧ bitsOf .and .u64 y 255 ≤ 255 := by
  have h : bitsOf .and .u64 y 255 = IntKind.u64.wrap ((BitVec.ofInt 64 y &&& BitVec.ofInt 64 255).toNat : Int) := rfl
  have h1 : (BitVec.ofInt 64 y &&& BitVec.ofInt 64 255).toNat ≤ 255 := by
    rw [BitVec.toNat_and]
    exact Nat.and_le_right
  rw [h, wrap_u64] <;> omega
theorem call_next (bs : List Int) (hb : okBy bs) (at_ : Nat) (ha : at_ ≤ 1000000) (seed : Int) : ∃ v seed', (0 ≤ v ∧ v ≤ 255) ∧ callOf pr 31 [.op 1000000 0] (SRC bs at_ seed) = some (I v, SRC bs (at_ + 1) seed') := by
  rw [call_eq pr 31 _ _ Try.f31 fn_31 _ rfl _ ann_31 rfl]
  have hw1 : IntKind.i64.wrap ((at_ : Int) + 1) = ((at_ + 1 : Nat) : Int) := by rw [wrap_i] <;> omega
  by_cases h : at_ < bs.length
  · have hx : ∀ z, bs.getD at_ z = bs[at_] := fun z => getD_of_lt h z
    have hr := hb.2 _ (List.getElem_mem h)
    generalize bs[at_] = x at *
    have hw2 : IntKind.i64.wrap x = x := by rw [wrap_i] <;> omega
    have hle : (((at_ + 1 : Nat) : Int) ≤ (bs.length : Int)) = True := tr (by omega)
    refine ⟨x, IntKind.u64.wrap (IntKind.u64.wrap (IntKind.u64.wrap (seed * 6364136223846793005) + IntKind.u64.wrap x) + 1442695040888963407), hr, ?_⟩
    simp -implicitDefEqProofs only [lt_cast h, tr h, zero_le_cast, Int.toNat_natCast, hx, hw1, hw2, hle, go_sem, Nat.reduceAdd, Nat.reduceSub, Nat.reduceMul, Nat.reduceMod, Nat.reduceLT, Nat.reduceLeDiff, Nat.reduceEqDiff, Nat.reduceBEq, Nat.reduceDiv, Int.reduceLT, Int.reduceLE, Int.reduceToNat, Int.reduceNeg, Int.reduceEq, ↓reduceIte, reduceCtorEq, ↓reduceDIte]
  · have h1 : ((at_ : Int) < (bs.length : Int)) = False := fa (by omega)
    have hle : (((at_ + 1 : Nat) : Int) ≤ (bs.length : Int)) = False := fa (by omega)
    have hr := and_byte ((IntKind.u64.wrap (IntKind.u64.wrap (IntKind.u64.wrap (seed * 6364136223846793005) + IntKind.u64.wrap 0) + 1442695040888963407)).fdiv (2 ^ min 40 64))
    generalize hB : bitsOf .and .u64 ((IntKind.u64.wrap (IntKind.u64.wrap (IntKind.u64.wrap (seed * 6364136223846793005) + IntKind.u64.wrap 0) + 1442695040888963407)).fdiv (2 ^ min 40 64)) 255 = bv at hr
    have hw2 : IntKind.i64.wrap bv = bv := by rw [wrap_i] <;> omega
    refine ⟨bv, IntKind.u64.wrap (IntKind.u64.wrap (IntKind.u64.wrap (seed * 6364136223846793005) + IntKind.u64.wrap 0) + 1442695040888963407), hr, ?_⟩
    simp -implicitDefEqProofs only [h1, zero_le_cast, Int.toNat_natCast, hw1, hle, go_sem, Nat.reduceAdd, Nat.reduceSub, Nat.reduceMul, Nat.reduceMod, Nat.reduceLT, Nat.reduceLeDiff, Nat.reduceEqDiff, Nat.reduceBEq, Nat.reduceDiv, Int.reduceLT, Int.reduceLE, Int.reduceToNat, Int.reduceNeg, Int.reduceEq, ↓reduceIte, reduceCtorEq, ↓reduceDIte]
    rw [hB, hw2]
/-- A draw of a few. -/
theorem call_pick (bs : List Int) (hb : okBy bs) (at_ : Nat) (ha : at_ ≤ 1000000) (seed : Int) (m : Int) (hm : 1 ≤ m ∧ m ≤ 200) : ∃ (v : Int) (at' : Nat) (seed' : Int), (0 ≤ v ∧ v < m) ∧ at' ≤ at_ + 1 ∧ callOf pr 15 [.op 1000000 0, I m] (SRC bs at_ seed) = some (I v, SRC bs at' seed') := by
  rw [call_eq pr 15 _ _ Try.f15 fn_15 _ rfl _ ann_15 rfl]
  by_cases h1 : m ≤ 1
  · refine ⟨0, at_, seed, by omega, by omega, ?_⟩
    simp -implicitDefEqProofs only [tr h1, go_sem, Nat.reduceAdd, Nat.reduceSub, Nat.reduceMul, Nat.reduceMod, Nat.reduceLT, Nat.reduceLeDiff, Nat.reduceEqDiff, Nat.reduceBEq, Nat.reduceDiv, Int.reduceLT, Int.reduceLE, Int.reduceToNat, Int.reduceNeg, Int.reduceEq, ↓reduceIte, reduceCtorEq, ↓reduceDIte]
  · obtain ⟨v, seed', hv, hn⟩ := call_next bs hb at_ ha seed
    have h0 : ¬ m = 0 := by omega
    have h2 : ¬ 200 < m := by omega
    have ht : v.tmod m = v % m := Int.tmod_eq_emod_of_nonneg (by omega)
    have r1 := Int.emod_nonneg v h0
    have r2 := Int.emod_lt_of_pos v (show 0 < m by omega)
    have hw : IntKind.i64.wrap (v % m) = v % m := by rw [wrap_i] <;> omega
    refine ⟨v % m, at_ + 1, seed', ⟨r1, r2⟩, by omega, ?_⟩
    simp -implicitDefEqProofs only [fa h1, hn, fa h0, fa h2, gt_iff_lt, ht, hw, go_sem, Nat.reduceAdd, Nat.reduceSub, Nat.reduceMul, Nat.reduceMod, Nat.reduceLT, Nat.reduceLeDiff, Nat.reduceEqDiff, Nat.reduceBEq, Nat.reduceDiv, Int.reduceLT, Int.reduceLE, Int.reduceToNat, Int.reduceNeg, Int.reduceEq, ↓reduceIte, reduceCtorEq, ↓reduceDIte]
theorem ascL_succ (k : Nat) : ascL (k + 1) = ascL k ++ [(k : Int)] := by simp [ascL, List.range_succ]
theorem ascL_length (k : Nat) : (ascL k).length = k := by simp [ascL]
theorem asc_step (n : Nat) (hn : n < 100) (k : Nat) (hk : k < n) : loopOf pr 40 0 ⟨[(3, .os (.t 320)), (6, I n), (7, I k)], [(320, .arr true false (.int .i64) (ascL k))]⟩ = loopOf pr 40 0 ⟨[(3, .os (.t 320)), (6, I n), (7, I ((k + 1 : Nat) : Int))], [(320, .arr true false (.int .i64) (ascL (k + 1)))]⟩ := by
  have hr : (((ascL k).length + 1) * 8 ≤ 140737488355328 ∧ (ascL k).length ≤ 9223372036854775806) = True := tr (by rw [ascL_length]; omega)
  have hw : IntKind.i64.wrap ((k : Int) + 1) = ((k + 1 : Nat) : Int) := by rw [wrap_i] <;> omega
  rw [ascL_succ]
  rw [loop_eq pr 40 0 _ Try.f40 fn_40 _ rfl _ ann_40 _ rfl]
  simp -implicitDefEqProofs only [lt_cast hk, hr, hw, go_sem, Nat.reduceAdd, Nat.reduceSub, Nat.reduceMul, Nat.reduceMod, Nat.reduceLT, Nat.reduceLeDiff, Nat.reduceEqDiff, Nat.reduceBEq, Nat.reduceDiv, Int.reduceLT, Int.reduceLE, Int.reduceToNat, Int.reduceNeg, Int.reduceEq, ↓reduceIte, reduceCtorEq, ↓reduceDIte]
theorem asc_end (n : Nat) (xs : List Int) : loopOf pr 40 0 ⟨[(3, .os (.t 320)), (6, I n), (7, I n)], [(320, .arr true false (.int .i64) xs)]⟩ = some (.exit 0, ⟨[(3, .os (.t 320)), (6, I n), (7, I n)], [(320, .arr true false (.int .i64) xs)]⟩) := by
  rw [loop_eq pr 40 0 _ Try.f40 fn_40 _ rfl _ ann_40 _ rfl]
  simp -implicitDefEqProofs only [Int.lt_irrefl, go_sem, Nat.reduceAdd, Nat.reduceSub, Nat.reduceMul, Nat.reduceMod, Nat.reduceLT, Nat.reduceLeDiff, Nat.reduceEqDiff, Nat.reduceBEq, Nat.reduceDiv, Int.reduceLT, Int.reduceLE, Int.reduceToNat, Int.reduceNeg, Int.reduceEq, ↓reduceIte, reduceCtorEq, ↓reduceDIte]
theorem loop_asc (n : Nat) (hn : n < 100) : ∀ (j k : Nat), k + j = n → loopOf pr 40 0 ⟨[(3, .os (.t 320)), (6, I n), (7, I k)], [(320, .arr true false (.int .i64) (ascL k))]⟩ = some (.exit 0, ⟨[(3, .os (.t 320)), (6, I n), (7, I n)], [(320, .arr true false (.int .i64) (ascL n))]⟩)
  | 0, k, h => by obtain rfl : k = n := by omega
                  exact asc_end k _
  | j + 1, k, h => by rw [asc_step n hn k (by omega)]; exact loop_asc n hn j (k + 1) (by omega)
theorem call_asc (n : Nat) (hn : n < 100) : callOf pr 40 [I n] [] = some (.os (.t 320), [(320, .arr true false (.int .i64) (ascL n))]) := by
  have h := loop_asc n hn n 0 (by omega)
  have h : loopOf pr 40 0 ⟨[(3, .os (.t 320)), (6, I n), (7, I 0)], [(320, .arr true false (.int .i64) [])]⟩ = _ := h
  rw [call_eq pr 40 _ _ Try.f40 fn_40 _ rfl _ ann_40 rfl]
  simp -implicitDefEqProofs only [h, go_sem, Nat.reduceAdd, Nat.reduceSub, Nat.reduceMul, Nat.reduceMod, Nat.reduceLT, Nat.reduceLeDiff, Nat.reduceEqDiff, Nat.reduceBEq, Nat.reduceDiv, Int.reduceLT, Int.reduceLE, Int.reduceToNat, Int.reduceNeg, Int.reduceEq, ↓reduceIte, reduceCtorEq, ↓reduceDIte]
theorem mv_is : ∀ n : Fin 7, ∀ i : Fin n.1, insAt ((ascL n).take i ++ (ascL n).drop (i + 1) ++ List.replicate (i.1 + 1 - i) 0) (n - 1) 0 (i.1 : Int) = mvF n i := by decide +kernel
theorem mv_of {n i : Nat} (hi : i < n) (hn : n ≤ 6) : insAt ((ascL n).take i ++ (ascL n).drop (i + 1) ++ List.replicate (i + 1 - i) 0) (n - 1) 0 (i : Int) = mvF n i := mv_is ⟨n, by omega⟩ ⟨i, hi⟩
theorem call_mv0 (n i : Nat) (hi : i < n) (hn : n ≤ 6) (xs ys zs : List Int) (hy : ys.length = n) (hzl : zs.length = n) (h : callOf pr 40 [I n] [] = some (.os (.t 320), [(320, .arr true false (.int .i64) xs)]))
    (hd : callOf pr 41 [.os (.t 1000000), I i, I ((i : Int) + 1)] [(1000000, .arr false false (.int .i64) xs)] = some (.sub (.t 1000000) 0 (n - 1), [(1000000, .arr false false (.int .i64) ys)]))
    (hz : callOf pr 42 [.sub (.t 1000000) 0 (n - 1), I 0, .os (.t 1000001)] [(1000000, .arr false false (.int .i64) ys), (1000001, .arr false false (.int .i64) [(i : Int)])] = some (.sub (.t 1000000) 0 n, [(1000000, .arr false false (.int .i64) zs), (1000001, .arr false false (.int .i64) [(i : Int)])])) :
    callOf pr 25 [I n, I i, I 0] [] = some (.os (.t 576), [(576, .arr true false (.int .i64) zs)]) := by
  have hw : IntKind.i64.wrap ((i : Int) + 1) = (i : Int) + 1 := by rw [wrap_i] <;> omega
  rw [call_eq pr 25 _ _ Try.f25 fn_25 _ rfl _ ann_25 rfl]
  have hc : (0 + n ≤ zs.length ∧ 0 < zs.length) = True := tr (by omega)
  have ht : zs.take n = zs := by rw [← hzl]; exact List.take_length
  simp -implicitDefEqProofs only [h, hw, hd, hz, hc, ht, go_sem, Nat.reduceAdd, Nat.reduceSub, Nat.reduceMul, Nat.reduceMod, Nat.reduceLT, Nat.reduceLeDiff, Nat.reduceEqDiff, Nat.reduceBEq, Nat.reduceDiv, Int.reduceLT, Int.reduceLE, Int.reduceToNat, Int.reduceNeg, Int.reduceEq, ↓reduceIte, reduceCtorEq, ↓reduceDIte]
theorem mvF_length : ∀ n : Fin 7, ∀ i : Fin n.1, (mvF n i).length = n := by decide +kernel
theorem mvF_len {n i : Nat} (hi : i < n) (hn : n ≤ 6) : (mvF n i).length = n := mvF_length ⟨n, by omega⟩ ⟨i, hi⟩
theorem call_mv (n i : Nat) (hi : i < n) (hn : n ≤ 6) : callOf pr 25 [I n, I i, I 0] [] = some (.os (.t 576), [(576, .arr true false (.int .i64) (mvF n i))]) := by
  have hl := ascL_length n
  have hd := call_del false (ascL n) i ((i : Int) + 1) (by rw [hl]; omega)
  have ht : ((i : Int) + 1).toNat = i + 1 := by omega
  rw [ht, Int.toNat_natCast, hl, show n - (i + 1 - i) = n - 1 by omega] at hd
  have hy : ((ascL n).take i ++ (ascL n).drop (i + 1) ++ List.replicate (i + 1 - i) 0).length = n := by simp [hl]; omega
  have hz := call_ins false false ((ascL n).take i ++ (ascL n).drop (i + 1) ++ List.replicate (i + 1 - i) 0) (n - 1) 0 i (by rw [hy]; omega)
  rw [show (0 : Int).toNat = 0 from rfl, mv_of hi hn, show n - 1 + 1 = n by omega] at hz
  exact call_mv0 n i hi hn (ascL n) _ (mvF n i) hy (mvF_len hi hn) (call_asc n (by omega)) hd hz
theorem call_l1 (n i : Nat) (hi : i < n) (hn : n ≤ 6) : callOf pr 24 [I i, .op 1000000 0] [(1000000, .box [I n])] = some (.os (.t 384), [(1000000, .box [I n]), (384, .arr true false (.int .i64) (mvF n i))]) := by
  have h := call_mv n i hi hn
  rw [call_eq pr 24 _ _ Try.f24 fn_24 _ rfl _ ann_24 rfl]
  simp -implicitDefEqProofs only [h, go_sem, Nat.reduceAdd, Nat.reduceSub, Nat.reduceMul, Nat.reduceMod, Nat.reduceLT, Nat.reduceLeDiff, Nat.reduceEqDiff, Nat.reduceBEq, Nat.reduceDiv, Int.reduceLT, Int.reduceLE, Int.reduceToNat, Int.reduceNeg, Int.reduceEq, ↓reduceIte, reduceCtorEq, ↓reduceDIte]
theorem call_l2 (n : Nat) (hi : 0 < n) (hn : n ≤ 6) : callOf pr 26 [.op 1000000 0] [(1000000, .box [I n])] = some (.os (.t 320), [(1000000, .box [I n]), (320, .arr true false (.int .i64) (mvF n (n - 1)))]) := by
  have h := call_mv n (n - 1) (by omega) hn
  have hw : IntKind.i64.wrap ((n : Int) - 1) = ((n - 1 : Nat) : Int) := by rw [wrap_i] <;> omega
  rw [call_eq pr 26 _ _ Try.f26 fn_26 _ rfl _ ann_26 rfl]
  simp -implicitDefEqProofs only [h, hw, go_sem, Nat.reduceAdd, Nat.reduceSub, Nat.reduceMul, Nat.reduceMod, Nat.reduceLT, Nat.reduceLeDiff, Nat.reduceEqDiff, Nat.reduceBEq, Nat.reduceDiv, Int.reduceLT, Int.reduceLE, Int.reduceToNat, Int.reduceNeg, Int.reduceEq, ↓reduceIte, reduceCtorEq, ↓reduceDIte]
def rowsL (g : Nat → List Int) (k : Nat) : List (List Int) := (List.range k).map g
theorem rowsL_succ (g : Nat → List Int) (k : Nat) : rowsL g (k + 1) = rowsL g k ++ [g k] := by simp [rowsL, List.range_succ]
theorem rowsL_length (g : Nat → List Int) (k : Nat) : (rowsL g k).length = k := by simp [rowsL]
theorem pol_0 (n : Nat) (hn : 0 < n) (h6 : n ≤ 6) : loopOf pr 23 0 ⟨[(1, .fn 24 [.op 1000000 0]), (2, .fn 26 [.op 1000000 0]), (6, .op 384 0), (8, .op 512 0), (15, I n), (16, I 0)], [(1000000, .box [I n]), (384, .box [.nilS, .nilS]), (512, .box [.nilS, .nilS])]⟩ =
    loopOf pr 23 0 ⟨[(1, .fn 24 [.op 1000000 0]), (2, .fn 26 [.op 1000000 0]), (6, .op 384 0), (8, .op 512 0), (15, I n), (16, I ((1 : Nat) : Int))], [(1000000, .box [I n]), (384, .box [.nilS, .nilS]), (512, .box [.os (.t 1600), .nilS]), (1600, .arr true true (.slice (.int .i64)) (rowsL (mvF n) 1))]⟩ := by
  have h0 : ((0 : Int) < (n : Int)) = True := tr (by omega)
  have hr := call_l1 n 0 hn h6
  have hr : callOf pr 24 [I 0, .op 1000000 0] [(1000000, .box [I n])] = some (.os (.t 384), [(1000000, .box [I n]), (384, .arr true false (.int .i64) ((mvF n) 0))]) := hr
  have hw : IntKind.i64.wrap (0 + 1) = ((1 : Nat) : Int) := by decide
  rw [show rowsL (mvF n) 1 = [(mvF n) 0] from rfl]
  generalize (mvF n) 0 = xs at *
  rw [loop_eq pr 23 0 _ Try.f23 fn_23 _ rfl _ ann_23 _ rfl]
  simp -implicitDefEqProofs only [h0, hr, hw, go_sem, Nat.reduceAdd, Nat.reduceSub, Nat.reduceMul, Nat.reduceMod, Nat.reduceLT, Nat.reduceLeDiff, Nat.reduceEqDiff, Nat.reduceBEq, Nat.reduceDiv, Int.reduceLT, Int.reduceLE, Int.reduceToNat, Int.reduceNeg, Int.reduceEq, ↓reduceIte, reduceCtorEq, ↓reduceDIte]
theorem pol_s (n k : Nat) (hk : k < n) (hn : n ≤ 6) : loopOf pr 23 0 ⟨[(1, .fn 24 [.op 1000000 0]), (2, .fn 26 [.op 1000000 0]), (6, .op 384 0), (8, .op 512 0), (15, I n), (16, I k)], [(1000000, .box [I n]), (384, .box [.nilS, .nilS]), (512, .box [.os (.t 1600), .nilS]), (1600, .arr true true (.slice (.int .i64)) (rowsL (mvF n) k))]⟩ =
    loopOf pr 23 0 ⟨[(1, .fn 24 [.op 1000000 0]), (2, .fn 26 [.op 1000000 0]), (6, .op 384 0), (8, .op 512 0), (15, I n), (16, I ((k + 1 : Nat) : Int))], [(1000000, .box [I n]), (384, .box [.nilS, .nilS]), (512, .box [.os (.t 1600), .nilS]), (1600, .arr true true (.slice (.int .i64)) (rowsL (mvF n) (k + 1)))]⟩ := by
  have hl : (rowsL (mvF n) k).length < 1000 := by rw [rowsL_length]; omega
  have hr := call_l1 n k hk hn
  have hr : callOf pr 24 [I k, .op 1000000 0] [(1000000, .box [I n])] = some (.os (.t 384), [(1000000, .box [I n]), (384, .arr true false (.int .i64) ((mvF n) k))]) := hr
  have hw : IntKind.i64.wrap ((k : Int) + 1) = ((k + 1 : Nat) : Int) := by rw [wrap_i] <;> omega
  have hr : callOf pr 24 [I k, .op 1000000 0] [(1000000, .box [I n])] = some (.os (.t 384), [(1000000, .box [I n]), (384, .arr true false (.int .i64) (mvF n k))]) := hr
  rw [show rowsL (mvF n) (k + 1) = rowsL (mvF n) k ++ [mvF n k] from rowsL_succ (mvF n) k]
  generalize rowsL (mvF n) k = hs at *
  generalize mvF n k = xs at *
  have hr2 : ((hs.length + 1) * 24 ≤ 140737488355328 ∧ hs.length ≤ 9223372036854775806) = True := tr ⟨by omega, by omega⟩
  rw [loop_eq pr 23 0 _ Try.f23 fn_23 _ rfl _ ann_23 _ rfl]
  simp -implicitDefEqProofs only [lt_cast hk, hr, hr2, hw, go_sem, Nat.reduceAdd, Nat.reduceSub, Nat.reduceMul, Nat.reduceMod, Nat.reduceLT, Nat.reduceLeDiff, Nat.reduceEqDiff, Nat.reduceBEq, Nat.reduceDiv, Int.reduceLT, Int.reduceLE, Int.reduceToNat, Int.reduceNeg, Int.reduceEq, ↓reduceIte, reduceCtorEq, ↓reduceDIte]
theorem pol_e (n : Nat) (hs : List (List Int)) : loopOf pr 23 0 ⟨[(1, .fn 24 [.op 1000000 0]), (2, .fn 26 [.op 1000000 0]), (6, .op 384 0), (8, .op 512 0), (15, I n), (16, I n)], [(1000000, .box [I n]), (384, .box [.nilS, .nilS]), (512, .box [.os (.t 1600), .nilS]), (1600, .arr true true (.slice (.int .i64)) hs)]⟩ =
    some (.exit 0, ⟨[(1, .fn 24 [.op 1000000 0]), (2, .fn 26 [.op 1000000 0]), (6, .op 384 0), (8, .op 512 0), (15, I n), (16, I n)], [(1000000, .box [I n]), (384, .box [.nilS, .nilS]), (512, .box [.os (.t 1600), .nilS]), (1600, .arr true true (.slice (.int .i64)) hs)]⟩) := by
  rw [loop_eq pr 23 0 _ Try.f23 fn_23 _ rfl _ ann_23 _ rfl]
  simp -implicitDefEqProofs only [Int.lt_irrefl, go_sem, Nat.reduceAdd, Nat.reduceSub, Nat.reduceMul, Nat.reduceMod, Nat.reduceLT, Nat.reduceLeDiff, Nat.reduceEqDiff, Nat.reduceBEq, Nat.reduceDiv, Int.reduceLT, Int.reduceLE, Int.reduceToNat, Int.reduceNeg, Int.reduceEq, ↓reduceIte, reduceCtorEq, ↓reduceDIte]
theorem pol_l (n : Nat) (hn : n ≤ 6) : ∀ (j k : Nat), k + j = n → loopOf pr 23 0 ⟨[(1, .fn 24 [.op 1000000 0]), (2, .fn 26 [.op 1000000 0]), (6, .op 384 0), (8, .op 512 0), (15, I n), (16, I k)], [(1000000, .box [I n]), (384, .box [.nilS, .nilS]), (512, .box [.os (.t 1600), .nilS]), (1600, .arr true true (.slice (.int .i64)) (rowsL (mvF n) k))]⟩ =
    some (.exit 0, ⟨[(1, .fn 24 [.op 1000000 0]), (2, .fn 26 [.op 1000000 0]), (6, .op 384 0), (8, .op 512 0), (15, I n), (16, I n)], [(1000000, .box [I n]), (384, .box [.nilS, .nilS]), (512, .box [.os (.t 1600), .nilS]), (1600, .arr true true (.slice (.int .i64)) (rowsL (mvF n) n))]⟩)
  | 0, k, h => by obtain rfl : k = n := by omega
                  exact pol_e k _
  | j + 1, k, h => by rw [pol_s n k (by omega) hn]; exact pol_l n hn j (k + 1) (by omega)
theorem pol_c (n : Nat) (h0 : 0 < n) (hn : n ≤ 6) (hway : callOf pr 39 [I n] [] = some (B true, [])) : callOf pr 23 [I n, .fn 24 [.op 1000000 0], .fn 26 [.op 1000000 0]] [(1000000, .box [I n])] = some (.tuple [.agg [.os (.t 1600), .os (.t 1856)], B true], [(1000000, .box [I n]), (1600, .arr true true (.slice (.int .i64)) (rowsL (mvF n) n)), (1856, .arr true false (.int .i64) (mvF n (n - 1)))]) := by
  have h1 := pol_l n hn (n - 1) 1 (by omega)
  rw [← pol_0 n h0 hn] at h1
  have h2 := call_l2 n h0 hn
  generalize rowsL (mvF n) n = hs at *
  generalize mvF n (n - 1) = ms at *
  rw [call_eq pr 23 _ _ Try.f23 fn_23 _ rfl _ ann_23 rfl]
  simp -implicitDefEqProofs only [hway, h1, h2, go_sem, Nat.reduceAdd, Nat.reduceSub, Nat.reduceMul, Nat.reduceMod, Nat.reduceLT, Nat.reduceLeDiff, Nat.reduceEqDiff, Nat.reduceBEq, Nat.reduceDiv, Int.reduceLT, Int.reduceLE, Int.reduceToNat, Int.reduceNeg, Int.reduceEq, ↓reduceIte, reduceCtorEq, ↓reduceDIte]
theorem pol (n : Nat) (h0 : 0 < n) (hn : n ≤ 6) : callOf pr 10 [I n] [] = some (.tuple [.agg [.os (.t 448), .os (.t 449)], B true], [(448, .arr true true (.slice (.int .i64)) (lruH n)), (449, .arr true false (.int .i64) (mvF n (n - 1)))]) := by
  have hway := call_ways n
  rw [decide_eq_true (show (1 : Int) ≤ (n : Int) ∧ (n : Int) ≤ 6 by omega)] at hway
  have h := pol_c n h0 hn hway
  rw [show lruH n = rowsL (mvF n) n from rfl]
  generalize rowsL (mvF n) n = hs at *
  generalize mvF n (n - 1) = ms at *
  rw [call_eq pr 10 _ _ Try.f10 fn_10 _ rfl _ ann_10 rfl]
  simp -implicitDefEqProofs only [h, go_sem, Nat.reduceAdd, Nat.reduceSub, Nat.reduceMul, Nat.reduceMod, Nat.reduceLT, Nat.reduceLeDiff, Nat.reduceEqDiff, Nat.reduceBEq, Nat.reduceDiv, Int.reduceLT, Int.reduceLE, Int.reduceToNat, Int.reduceNeg, Int.reduceEq, ↓reduceIte, reduceCtorEq, ↓reduceDIte]
theorem call_from (bs : List Int) : callOf pr 14 [BY bs] [] = some (.op 320 0, [(320, .box [BY bs, I 0, .d (.int .u64) 0])]) := by
  rw [call_eq pr 14 _ _ Try.f14 fn_14 _ rfl _ ann_14 rfl]
  simp -implicitDefEqProofs only [go_sem, Nat.reduceAdd, Nat.reduceSub, Nat.reduceMul, Nat.reduceMod, Nat.reduceLT, Nat.reduceLeDiff, Nat.reduceEqDiff, Nat.reduceBEq, Nat.reduceDiv, Int.reduceLT, Int.reduceLE, Int.reduceToNat, Int.reduceNeg, Int.reduceEq, ↓reduceIte, reduceCtorEq, ↓reduceDIte]
end Go.Proofs.Ytjcldkfgpifebaa.PI
