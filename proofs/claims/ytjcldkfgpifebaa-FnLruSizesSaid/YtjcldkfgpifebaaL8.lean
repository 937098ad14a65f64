/- Drawn uses; curves, counts, sizes: the program. -/
import Derived.Test.YtjcldkfgpifebaaL3
import Derived.Test.YtjcldkfgpifebaaD4
namespace Go.Proofs.Ytjcldkfgpifebaa.PI
open Go Go.Q
set_option maxRecDepth 100000
set_option maxHeartbeats 4000000
set_option linter.unusedSimpArgs false
set_option linter.unusedVariables false
set_option maxHeartbeats 8000000
abbrev F1T (n k j : Int) : Slots := [(0, .op 1000000 0), (1, I n), (2, I k), (7, .os (.t 640)), (8, I j)]
abbrev F1H (bs : List Int) (at_ : Nat) (sd : Int) (xs : List Int) : Heap := [(1000000, .box [BY bs, I at_, .d (.int .u64) sd]), (640, .arr true false (.int .i64) xs)]
theorem f1_s (bs xs : List Int) (at_ a1 : Nat) (sd s1 n v : Int) (k j : Nat) (hj : j < k) (hk : k ≤ 100) (hl : xs.length ≤ 100) (h : callOf pr 15 [.op 1000000 0, I 64] (SRC bs at_ sd) = some (I v, SRC bs a1 s1)) : loopOf pr 16 0 ⟨F1T n k j, F1H bs at_ sd xs⟩ = loopOf pr 16 0 ⟨F1T n k ((j + 1 : Nat) : Int), F1H bs a1 s1 (xs ++ [v])⟩ := by
  have h : callOf pr 15 [.op 1000000 0, I 64] [(1000000, .box [BY bs, I at_, .d (.int .u64) sd])] = some (I v, SRC bs a1 s1) := h
  have hr : ((xs.length + 1) * 8 ≤ 140737488355328 ∧ xs.length ≤ 9223372036854775806) = True := tr ⟨by omega, by omega⟩
  have hw : IntKind.i64.wrap ((j : Int) + 1) = ((j + 1 : Nat) : Int) := by rw [wrap_i] <;> omega
  rw [loop_eq pr 16 0 _ Try.f16 fn_16 _ rfl _ ann_16 _ rfl]
  simp -implicitDefEqProofs only [lt_cast hj, h, hr, hw, go_sem, Nat.reduceAdd, Nat.reduceSub, Nat.reduceMul, Nat.reduceMod, Nat.reduceLT, Nat.reduceLeDiff, Nat.reduceEqDiff, Nat.reduceBEq, Nat.reduceDiv, Int.reduceLT, Int.reduceLE, Int.reduceToNat, Int.reduceNeg, Int.reduceEq, ↓reduceIte, reduceCtorEq, ↓reduceDIte]
theorem f1_e (bs xs : List Int) (at_ : Nat) (sd n : Int) (k : Nat) : loopOf pr 16 0 ⟨F1T n k k, F1H bs at_ sd xs⟩ = some (.exit 0, ⟨F1T n k k, F1H bs at_ sd xs⟩) := by
  rw [loop_eq pr 16 0 _ Try.f16 fn_16 _ rfl _ ann_16 _ rfl]
  simp -implicitDefEqProofs only [Int.lt_irrefl, go_sem, Nat.reduceAdd, Nat.reduceSub, Nat.reduceMul, Nat.reduceMod, Nat.reduceLT, Nat.reduceLeDiff, Nat.reduceEqDiff, Nat.reduceBEq, Nat.reduceDiv, Int.reduceLT, Int.reduceLE, Int.reduceToNat, Int.reduceNeg, Int.reduceEq, ↓reduceIte, reduceCtorEq, ↓reduceDIte]
theorem f1_l (bs : List Int) (hb : okBy bs) (n : Int) (k : Nat) (hk : k ≤ 100) : ∀ (d j at_ : Nat) (sd : Int) (xs : List Int), j + d = k → at_ + d ≤ 1000 → xs.length = j → (∀ x ∈ xs, 0 ≤ x ∧ x < 64) →
    ∃ at' sd' xs', at' ≤ at_ + d ∧ List.length xs' = k ∧ (∀ x ∈ xs', 0 ≤ x ∧ x < 64) ∧ loopOf pr 16 0 ⟨F1T n k j, F1H bs at_ sd xs⟩ = some (.exit 0, ⟨F1T n k k, F1H bs at' sd' xs'⟩)
  | 0, j, at_, sd, xs, h, ha, hl, hr => by
    obtain rfl : j = k := by omega
    exact ⟨at_, sd, xs, by omega, hl, hr, f1_e bs xs at_ sd n j⟩
  | d + 1, j, at_, sd, xs, h, ha, hl, hr => by
    obtain ⟨v, a1, s1, hv, ha1, hp⟩ := call_pick bs hb at_ (by omega) sd 64 (by omega)
    obtain ⟨at', sd', xs', q1, q2, q3, q4⟩ := f1_l bs hb n k hk d (j + 1) a1 s1 (xs ++ [v]) (by omega) (by omega) (by simp; omega) (fun y hy => by
      rcases List.mem_append.1 hy with hy | hy
      · exact hr y hy
      · rw [List.mem_singleton.1 hy]; exact hv)
    exact ⟨at', sd', xs', by omega, q2, q3, by rw [f1_s bs xs at_ a1 sd s1 n v k j (by omega) hk (by omega) hp]; exact q4⟩
abbrev AMH (bs : List Int) (at_ : Nat) (sd : Int) (xs : List Int) : Heap := [(1000000, .box [BY bs, I at_, .d (.int .u64) sd]), (1000001, .arr false false (.int .i64) xs)]
theorem call_am (bs xs : List Int) (hb : okBy bs) (at_ : Nat) (ha : at_ ≤ 100000) (sd : Int) (hx : 1 ≤ xs.length ∧ xs.length ≤ 100) (hr : ∀ x ∈ xs, 0 ≤ x ∧ x < 64) : ∃ (v : Int) (a1 : Nat) (s1 : Int), (0 ≤ v ∧ v < 64) ∧ a1 ≤ at_ + 1 ∧ callOf pr 32 [.op 1000000 0, .os (.t 1000001)] (AMH bs at_ sd xs) = some (I v, AMH bs a1 s1 xs) := by
  obtain ⟨v, a1, s1, hv, ha1, hp⟩ := call_pick bs hb at_ (by omega) sd xs.length (by omega)
  have hp : callOf pr 15 [.op 1000000 0, I xs.length] [(1000000, .box [BY bs, I at_, .d (.int .u64) sd])] = some (I v, SRC bs a1 s1) := hp
  obtain ⟨j, rfl⟩ : ∃ j : Nat, v = j := ⟨v.toNat, by omega⟩
  have hj : j < xs.length := by omega
  refine ⟨xs[j], a1, s1, hr _ (List.getElem_mem hj), ha1, ?_⟩
  rw [call_eq pr 32 _ _ Try.f32 fn_32 _ rfl _ ann_32 rfl]
  simp -implicitDefEqProofs only [hp, zero_le_cast, lt_cast hj, Int.toNat_natCast, show ∀ z, xs.getD j z = xs[j] from fun z => getD_of_lt hj z, go_sem, Nat.reduceAdd, Nat.reduceSub, Nat.reduceMul, Nat.reduceMod, Nat.reduceLT, Nat.reduceLeDiff, Nat.reduceEqDiff, Nat.reduceBEq, Nat.reduceDiv, Int.reduceLT, Int.reduceLE, Int.reduceToNat, Int.reduceNeg, Int.reduceEq, ↓reduceIte, reduceCtorEq, ↓reduceDIte]
abbrev F2T (n : Int) : Slots := [(0, .op 1000000 0), (1, I n), (7, .os (.t 640)), (9, .os (.t 1344))]
abbrev F2H (bs : List Int) (at_ : Nat) (sd : Int) (xs out : List Int) : Heap := [(1000000, .box [BY bs, I at_, .d (.int .u64) sd]), (640, .arr true false (.int .i64) xs), (1344, .arr true false (.int .i64) out)]
theorem f2_s (bs xs out : List Int) (at_ a1 : Nat) (sd s1 v : Int) (n : Nat) (hn : n ≤ 100) (hl : out.length ≤ 100) (h : callOf pr 32 [.op 1000000 0, .os (.t 1000001)] (AMH bs at_ sd xs) = some (I v, AMH bs a1 s1 xs)) : loopOf pr 16 1 ⟨F2T ((n + 1 : Nat) : Int), F2H bs at_ sd xs out⟩ = loopOf pr 16 1 ⟨F2T n, F2H bs a1 s1 xs (out ++ [v])⟩ := by
  have h : callOf pr 32 [.op 1000000 0, .os (.t 1000001)] [(1000000, .box [BY bs, I at_, .d (.int .u64) sd]), (1000001, .arr false false (.int .i64) xs)] = some (I v, AMH bs a1 s1 xs) := h
  have hr : ((out.length + 1) * 8 ≤ 140737488355328 ∧ out.length ≤ 9223372036854775806) = True := tr ⟨by omega, by omega⟩
  have h0 : (0 < ((n + 1 : Nat) : Int)) = True := tr (by omega)
  have hw : IntKind.i64.wrap (((n + 1 : Nat) : Int) - 1) = (n : Int) := by rw [wrap_i] <;> omega
  rw [loop_eq pr 16 1 _ Try.f16 fn_16 _ rfl _ ann_16 _ rfl]
  simp -implicitDefEqProofs only [h0, h, hr, hw, gt_iff_lt, go_sem, Nat.reduceAdd, Nat.reduceSub, Nat.reduceMul, Nat.reduceMod, Nat.reduceLT, Nat.reduceLeDiff, Nat.reduceEqDiff, Nat.reduceBEq, Nat.reduceDiv, Int.reduceLT, Int.reduceLE, Int.reduceToNat, Int.reduceNeg, Int.reduceEq, ↓reduceIte, reduceCtorEq, ↓reduceDIte]
theorem f2_e (bs xs out : List Int) (at_ : Nat) (sd : Int) : loopOf pr 16 1 ⟨F2T 0, F2H bs at_ sd xs out⟩ = some (.exit 2, ⟨F2T 0, F2H bs at_ sd xs out⟩) := by
  rw [loop_eq pr 16 1 _ Try.f16 fn_16 _ rfl _ ann_16 _ rfl]
  simp -implicitDefEqProofs only [Int.lt_irrefl, gt_iff_lt, go_sem, Nat.reduceAdd, Nat.reduceSub, Nat.reduceMul, Nat.reduceMod, Nat.reduceLT, Nat.reduceLeDiff, Nat.reduceEqDiff, Nat.reduceBEq, Nat.reduceDiv, Int.reduceLT, Int.reduceLE, Int.reduceToNat, Int.reduceNeg, Int.reduceEq, ↓reduceIte, reduceCtorEq, ↓reduceDIte]
theorem f2_l (bs xs : List Int) (hb : okBy bs) (hx : 1 ≤ xs.length ∧ xs.length ≤ 100) (hxr : ∀ x ∈ xs, 0 ≤ x ∧ x < 64) : ∀ (n at_ : Nat) (sd : Int) (out : List Int), n ≤ 50 → at_ + n ≤ 1000 → out.length + n ≤ 90 → (∀ x ∈ out, 0 ≤ x ∧ x < 64) →
    ∃ at' sd' out', List.length out' = out.length + n ∧ (∀ x ∈ out', 0 ≤ x ∧ x < 64) ∧ loopOf pr 16 1 ⟨F2T n, F2H bs at_ sd xs out⟩ = some (.exit 2, ⟨F2T 0, F2H bs at' sd' xs out'⟩)
  | 0, at_, sd, out, hn, ha, hl, hr => ⟨at_, sd, out, rfl, hr, f2_e bs xs out at_ sd⟩
  | n + 1, at_, sd, out, hn, ha, hl, hr => by
    obtain ⟨v, a1, s1, hv, ha1, hp⟩ := call_am bs xs hb at_ (by omega) sd hx hxr
    obtain ⟨at', sd', out', q1, q2, q3⟩ := f2_l bs xs hb hx hxr n a1 s1 (out ++ [v]) (by omega) (by omega) (by simp; omega) (fun y hy => by
      rcases List.mem_append.1 hy with hy | hy
      · exact hr y hy
      · rw [List.mem_singleton.1 hy]; exact hv)
    exact ⟨at', sd', out', by rw [q1]; simp; omega, q2, by rw [f2_s bs xs out at_ a1 sd s1 v n (by omega) (by omega) hp]; exact q3⟩
theorem call_few (bs : List Int) (hb : okBy bs) (at_ : Nat) (ha : at_ ≤ 100) (sd : Int) (n k : Nat) (hn : n ≤ 50) (hk : 1 ≤ k ∧ k ≤ 50) : ∃ (out : List Int) (at' : Nat) (sd' : Int), List.length out = n ∧ (∀ x ∈ out, 0 ≤ x ∧ x < 64) ∧ callOf pr 16 [.op 1000000 0, I n, I k] (SRC bs at_ sd) = some (.os (.t 1344), [(1000000, .box [BY bs, I at', .d (.int .u64) sd']), (1344, .arr true false (.int .i64) out)]) := by
  obtain ⟨a1, s1, xs, q1, q2, q3, q4⟩ := f1_l bs hb n k (by omega) k 0 at_ sd [] (by omega) (by omega) rfl (fun x hx => by cases hx)
  have q4 : loopOf pr 16 0 ⟨[(0, .op 1000000 0), (1, I n), (2, I k), (7, .os (.t 640)), (8, I 0)], [(1000000, .box [BY bs, I at_, .d (.int .u64) sd]), (640, .arr true false (.int .i64) [])]⟩ = _ := q4
  obtain ⟨a2, s2, out, t1, t2, t3⟩ := f2_l bs xs hb (by omega) q3 n a1 s1 [] hn (by omega) (by simp; omega) (fun x hx => by cases hx)
  refine ⟨out, a2, s2, by simpa using t1, t2, ?_⟩
  rw [call_eq pr 16 _ _ Try.f16 fn_16 _ rfl _ ann_16 rfl]
  simp -implicitDefEqProofs only [q4, t3, go_sem, Nat.reduceAdd, Nat.reduceSub, Nat.reduceMul, Nat.reduceMod, Nat.reduceLT, Nat.reduceLeDiff, Nat.reduceEqDiff, Nat.reduceBEq, Nat.reduceDiv, Int.reduceLT, Int.reduceLE, Int.reduceToNat, Int.reduceNeg, Int.reduceEq, ↓reduceIte, reduceCtorEq, ↓reduceDIte]
theorem call_us (bs : List Int) (hb : okBy bs) : ∃ us : List Int, us.length ≤ 13 ∧ (∀ x ∈ us, 0 ≤ x ∧ x < 64) ∧ callOf pr 5 [BY bs] [] = some (.os (.t 1024), [(1024, .arr true false (.int .i64) us)]) := by
  obtain ⟨v, a1, s1, hv, ha, h1⟩ := call_pick bs hb 0 (by omega) 0 14 (by omega)
  have h1 : callOf pr 15 [.op 1000000 0, I 14] [(1000000, .box [BY bs, I 0, .d (.int .u64) 0])] = some (I v, SRC bs a1 s1) := h1
  obtain ⟨k, a2, s2, hk, ha2, h2⟩ := call_pick bs hb a1 (by omega) s1 5 (by omega)
  obtain ⟨n, rfl⟩ : ∃ n : Nat, v = n := ⟨v.toNat, by omega⟩
  obtain ⟨m, hm⟩ : ∃ m : Nat, 1 + k = m := ⟨(1 + k).toNat, by omega⟩
  have hw : IntKind.i64.wrap (1 + k) = (m : Int) := by rw [hm, wrap_i] <;> omega
  obtain ⟨out, at', sd', q1, q2, q3⟩ := call_few bs hb a2 (by omega) s2 n m (by omega) (by omega)
  have q3 : callOf pr 16 [.op 1000000 0, I n, I m] [(1000000, .box [BY bs, I a2, .d (.int .u64) s2])] = _ := q3
  have hf := call_from bs
  refine ⟨out, by omega, q2, ?_⟩
  rw [call_eq pr 5 _ _ Try.f5 fn_5 _ rfl _ ann_5 rfl]
  simp -implicitDefEqProofs only [hf, h1, h2, hw, q3, go_sem, Nat.reduceAdd, Nat.reduceSub, Nat.reduceMul, Nat.reduceMod, Nat.reduceLT, Nat.reduceLeDiff, Nat.reduceEqDiff, Nat.reduceBEq, Nat.reduceDiv, Int.reduceLT, Int.reduceLE, Int.reduceToNat, Int.reduceNeg, Int.reduceEq, ↓reduceIte, reduceCtorEq, ↓reduceDIte]
theorem call_im (n : Nat) (h : n ≤ 60) : callOf pr 18 [I n] [] = some (B true, []) := by
  have g := call_34 (n : Int) 0 60
  rw [decide_eq_true (show (0 : Int) ≤ (n : Int) ∧ (n : Int) ≤ 60 by omega)] at g
  rw [call_eq pr 18 _ _ Try.f18 fn_18 _ rfl _ ann_18 rfl]
  simp -implicitDefEqProofs only [g, go_sem, Nat.reduceAdd, Nat.reduceSub, Nat.reduceMul, Nat.reduceMod, Nat.reduceLT, Nat.reduceLeDiff, Nat.reduceEqDiff, Nat.reduceBEq, Nat.reduceDiv, Int.reduceLT, Int.reduceLE, Int.reduceToNat, Int.reduceNeg, Int.reduceEq, ↓reduceIte, reduceCtorEq, ↓reduceDIte]
theorem call_lc (us : List Int) (hb : us.length ≤ 13) (hv : validU us = true) : callOf pr 6 [L us, I 20] [] = some (.tuple [.os (.t 1088), B true], [(1088, .arr true false (.int .i64) (curveL (distL [] us) 21))]) := by
  have g1 := call_vu us (by omega)
  rw [hv] at g1
  have g2 := call_im 20 (by omega)
  have g2 : callOf pr 18 [I 20] [] = _ := g2
  have g3 := call_di us (by omega)
  have g4 := call_cu (distL [] us) (by rw [distL_length]; omega) 20 (by omega)
  have g4 : callOf pr 19 [L (distL [] us), I 20] [] = _ := g4
  rw [call_eq pr 6 _ _ Try.f6 fn_6 _ rfl _ ann_6 rfl]
  generalize distL [] us = ds at *
  simp -implicitDefEqProofs only [g1, g2, g3, g4, go_sem, Nat.reduceAdd, Nat.reduceSub, Nat.reduceMul, Nat.reduceMod, Nat.reduceLT, Nat.reduceLeDiff, Nat.reduceEqDiff, Nat.reduceBEq, Nat.reduceDiv, Int.reduceLT, Int.reduceLE, Int.reduceToNat, Int.reduceNeg, Int.reduceEq, ↓reduceIte, reduceCtorEq, ↓reduceDIte]
theorem call_ao0 (g1 : callOf pr 17 [L []] [] = some (B true, [])) : callOf pr 7 [L []] [] = some (.tuple [.nilS, B true], []) := by
  have g2 := call_st0
  rw [call_eq pr 7 _ _ Try.f7 fn_7 _ rfl _ ann_7 rfl]
  simp -implicitDefEqProofs only [g1, g2, go_sem, Nat.reduceAdd, Nat.reduceSub, Nat.reduceMul, Nat.reduceMod, Nat.reduceLT, Nat.reduceLeDiff, Nat.reduceEqDiff, Nat.reduceBEq, Nat.reduceDiv, Int.reduceLT, Int.reduceLE, Int.reduceToNat, Int.reduceNeg, Int.reduceEq, ↓reduceIte, reduceCtorEq, ↓reduceDIte]
theorem call_ao1 (us : List Int) (hb : us.length ≤ 13) (hv : validU us = true) (h0 : ¬ us.length = 0) : callOf pr 7 [L us] [] = some (.tuple [.os (.t 512), B true], [(512, .arr true false (.int .i64) (comp (sortI us)))]) := by
  have g1 := call_vu us (by omega)
  rw [hv] at g1
  have g2 := call_st us h0 (by omega)
  rw [call_eq pr 7 _ _ Try.f7 fn_7 _ rfl _ ann_7 rfl]
  simp -implicitDefEqProofs only [g1, g2, go_sem, Nat.reduceAdd, Nat.reduceSub, Nat.reduceMul, Nat.reduceMod, Nat.reduceLT, Nat.reduceLeDiff, Nat.reduceEqDiff, Nat.reduceBEq, Nat.reduceDiv, Int.reduceLT, Int.reduceLE, Int.reduceToNat, Int.reduceNeg, Int.reduceEq, ↓reduceIte, reduceCtorEq, ↓reduceDIte]
theorem call_sz1 (few : Nat) (x : Int) : callOf pr 30 [I x, .rp [I few]] [] = some (B (decide (x ≤ (few : Int))), []) := by
  rw [call_eq pr 30 _ _ Try.f30 fn_30 _ rfl _ ann_30 rfl]
  simp -implicitDefEqProofs only [go_sem, Nat.reduceAdd, Nat.reduceSub, Nat.reduceMul, Nat.reduceMod, Nat.reduceLT, Nat.reduceLeDiff, Nat.reduceEqDiff, Nat.reduceBEq, Nat.reduceDiv, Int.reduceLT, Int.reduceLE, Int.reduceToNat, Int.reduceNeg, Int.reduceEq, ↓reduceIte, reduceCtorEq, ↓reduceDIte]
def sizeV (us : List Int) (few : Nat) : AV := match (curveL (distL [] us) 61).findIdx? (fun n => decide (n ≤ (few : Int))) with
  | some k => .tuple [I (k : Nat), B true]
  | none => .tuple [I 0, B false]
theorem call_sz (us : List Int) (hb : us.length ≤ 13) (hv : validU us = true) (few : Nat) (hf : few ≤ 60) : callOf pr 13 [L us, I few] [] = some (sizeV us few, []) := by
  have g1 := call_vu us (by omega)
  rw [hv] at g1
  have g2 := call_im few hf
  have g3 := call_di us (by omega)
  have g4 := call_cu (distL [] us) (by rw [distL_length]; omega) 60 (by omega)
  have g4 : callOf pr 19 [L (distL [] us), I 60] [] = some (.os (.t 640), [(640, .arr true false (.int .i64) (curveL (distL [] us) 61))]) := g4
  have g5 := call_29 (curveL (distL [] us) 61) (by rw [curveL_length]; omega) (fun n => decide (n ≤ (few : Int))) 30 [.rp [I few]] ⟨rfl, of_decide_eq_true rfl⟩ rfl (fun x _ => call_sz1 few x)
  unfold sizeV
  generalize curveL (distL [] us) 61 = cs at *
  generalize distL [] us = ds at *
  rw [call_eq pr 13 _ _ Try.f13 fn_13 _ rfl _ ann_13 rfl]
  cases hfi : cs.findIdx? (fun n => decide (n ≤ (few : Int))) with
  | none =>
    rw [hfi] at g5
    simp only at g5
    simp -implicitDefEqProofs only [g1, g2, g3, g4, g5, go_sem, Nat.reduceAdd, Nat.reduceSub, Nat.reduceMul, Nat.reduceMod, Nat.reduceLT, Nat.reduceLeDiff, Nat.reduceEqDiff, Nat.reduceBEq, Nat.reduceDiv, Int.reduceLT, Int.reduceLE, Int.reduceToNat, Int.reduceNeg, Int.reduceEq, ↓reduceIte, reduceCtorEq, ↓reduceDIte]
  | some k =>
    rw [hfi] at g5
    simp only at g5
    have hk : ((k : Int) < 0) = False := fa (by omega)
    simp -implicitDefEqProofs only [g1, g2, g3, g4, g5, hk, go_sem, Nat.reduceAdd, Nat.reduceSub, Nat.reduceMul, Nat.reduceMod, Nat.reduceLT, Nat.reduceLeDiff, Nat.reduceEqDiff, Nat.reduceBEq, Nat.reduceDiv, Int.reduceLT, Int.reduceLE, Int.reduceToNat, Int.reduceNeg, Int.reduceEq, ↓reduceIte, reduceCtorEq, ↓reduceDIte]
theorem call_atr (bs : List Int) (hb : okBy bs) : ∃ v : Nat, v < 14 ∧ callOf pr 12 [BY bs, I 0, I 14] [] = some (I v, []) := by
  by_cases h : (0 : Int) < bs.length
  · have hx : bs.getD 0 0 ∈ bs := by
      have h' : 0 < bs.length := by omega
      rw [getD_of_lt h']
      exact List.getElem_mem h'
    have hr := hb.2 _ hx
    have ht := Int.tmod_eq_emod_of_nonneg (b := 14) hr.1
    have hw : IntKind.i64.wrap (bs.getD 0 0) = bs.getD 0 0 := by rw [wrap_i] <;> omega
    have hle : ((bs.length : Int) ≤ 0) = False := fa (by omega)
    obtain ⟨v, hv⟩ : ∃ v : Nat, (bs.getD 0 0).tmod 14 = v := ⟨((bs.getD 0 0).tmod 14).toNat, by omega⟩
    have hw2 : IntKind.i64.wrap (v : Int) = (v : Int) := by rw [wrap_i] <;> omega
    refine ⟨v, by omega, ?_⟩
    rw [call_eq pr 12 _ _ Try.f12 fn_12 _ rfl _ ann_12 rfl]
    simp -implicitDefEqProofs only [tr h, hw, hle, hv, hw2, ge_iff_le, go_sem, Nat.reduceAdd, Nat.reduceSub, Nat.reduceMul, Nat.reduceMod, Nat.reduceLT, Nat.reduceLeDiff, Nat.reduceEqDiff, Nat.reduceBEq, Nat.reduceDiv, Int.reduceLT, Int.reduceLE, Int.reduceToNat, Int.reduceNeg, Int.reduceEq, ↓reduceIte, reduceCtorEq, ↓reduceDIte]
  · have hle : ((bs.length : Int) ≤ 0) = True := tr (by omega)
    refine ⟨0, by omega, ?_⟩
    rw [call_eq pr 12 _ _ Try.f12 fn_12 _ rfl _ ann_12 rfl]
    simp -implicitDefEqProofs only [hle, ge_iff_le, go_sem, Nat.reduceAdd, Nat.reduceSub, Nat.reduceMul, Nat.reduceMod, Nat.reduceLT, Nat.reduceLeDiff, Nat.reduceEqDiff, Nat.reduceBEq, Nat.reduceDiv, Int.reduceLT, Int.reduceLE, Int.reduceToNat, Int.reduceNeg, Int.reduceEq, ↓reduceIte, reduceCtorEq, ↓reduceDIte] <;> rfl
theorem call_lo (a b : List Int) : callOf pr 4 [BY a, BY b] [] = some (B (decide (48 < (a.length : Int)) || decide (48 < (b.length : Int))), []) := by
  rw [call_eq pr 4 _ _ Try.f4 fn_4 _ rfl _ ann_4 rfl]
  by_cases h : (48 : Int) < a.length
  · rw [decide_eq_true h]
    simp -implicitDefEqProofs only [tr h, gt_iff_lt, Bool.true_or, go_sem, Nat.reduceAdd, Nat.reduceSub, Nat.reduceMul, Nat.reduceMod, Nat.reduceLT, Nat.reduceLeDiff, Nat.reduceEqDiff, Nat.reduceBEq, Nat.reduceDiv, Int.reduceLT, Int.reduceLE, Int.reduceToNat, Int.reduceNeg, Int.reduceEq, ↓reduceIte, reduceCtorEq, ↓reduceDIte]
  · rw [decide_eq_false h]
    simp -implicitDefEqProofs only [fa h, gt_iff_lt, Bool.false_or, go_sem, Nat.reduceAdd, Nat.reduceSub, Nat.reduceMul, Nat.reduceMod, Nat.reduceLT, Nat.reduceLeDiff, Nat.reduceEqDiff, Nat.reduceBEq, Nat.reduceDiv, Int.reduceLT, Int.reduceLE, Int.reduceToNat, Int.reduceNeg, Int.reduceEq, ↓reduceIte, reduceCtorEq, ↓reduceDIte]
theorem bump_length {out : List Int} {d : Int} {n : Nat} (h1 : out.length ≤ n) (h2 : d < n) : (bumpL out d).length ≤ n := by
  unfold bumpL
  split
  · exact h1
  · simp; omega
theorem hist_length : ∀ (ds out : List Int) (n : Nat), out.length ≤ n → (∀ d ∈ ds, d < n) → (histL out ds).length ≤ n
  | [], out, n, h, _ => h
  | d :: ds, out, n, h, hd => hist_length ds (bumpL out d) n (bump_length h (hd d (by simp))) (fun x hx => hd x (by simp [hx]))
theorem hist_snoc (d : Int) : ∀ (ds out : List Int), histL out (ds ++ [d]) = bumpL (histL out ds) d
  | [], out => rfl
  | x :: ds, out => hist_snoc d ds (bumpL out x)
theorem eqN_le : ∀ (ds : List Int) (n : Nat), eqN ds n ≤ ds.length := fun ds n => List.length_filter_le _ _
abbrev D0T (n k : Int) : Slots := [(4, .os (.t 640)), (12, .os (.t 768)), (13, I n), (14, I k)]
abbrev D1T (d n k : Int) : Slots := [(4, .os (.t 640)), (6, I d), (12, .os (.t 768)), (13, I n), (14, I k)]
abbrev DH (out ds : List Int) : Heap := [(640, .arr true false (.int .i64) out), (768, .arr true false (.int .i64) ds)]
theorem d1_s (out ds : List Int) (d n k : Int) (hl : out.length ≤ 100) (h : (out.length : Int) ≤ d) : loopOf pr 8 1 ⟨D1T d n k, DH out ds⟩ = loopOf pr 8 1 ⟨D1T d n k, DH (out ++ [0]) ds⟩ := by
  have hr : ((out.length + 1) * 8 ≤ 140737488355328 ∧ out.length ≤ 9223372036854775806) = True := tr ⟨by omega, by omega⟩
  have g := call_22 out
  rw [loop_eq pr 8 1 _ Try.f8 fn_8 _ rfl _ ann_8 _ rfl]
  simp -implicitDefEqProofs only [g, tr h, hr, ge_iff_le, go_sem, Nat.reduceAdd, Nat.reduceSub, Nat.reduceMul, Nat.reduceMod, Nat.reduceLT, Nat.reduceLeDiff, Nat.reduceEqDiff, Nat.reduceBEq, Nat.reduceDiv, Int.reduceLT, Int.reduceLE, Int.reduceToNat, Int.reduceNeg, Int.reduceEq, ↓reduceIte, reduceCtorEq, ↓reduceDIte]
theorem d1_e (out ds : List Int) (d n k : Int) (h : ¬ (out.length : Int) ≤ d) : loopOf pr 8 1 ⟨D1T d n k, DH out ds⟩ = some (.exit 2, ⟨D1T d n k, DH out ds⟩) := by
  have g := call_22 out
  rw [loop_eq pr 8 1 _ Try.f8 fn_8 _ rfl _ ann_8 _ rfl]
  simp -implicitDefEqProofs only [g, fa h, ge_iff_le, go_sem, Nat.reduceAdd, Nat.reduceSub, Nat.reduceMul, Nat.reduceMod, Nat.reduceLT, Nat.reduceLeDiff, Nat.reduceEqDiff, Nat.reduceBEq, Nat.reduceDiv, Int.reduceLT, Int.reduceLE, Int.reduceToNat, Int.reduceNeg, Int.reduceEq, ↓reduceIte, reduceCtorEq, ↓reduceDIte]
theorem d1_l (ds : List Int) (d : Nat) (n k : Int) (hd : d ≤ 60) : ∀ (m : Nat) (out : List Int), m = d + 1 - out.length → out.length ≤ 100 → loopOf pr 8 1 ⟨D1T d n k, DH out ds⟩ = some (.exit 2, ⟨D1T d n k, DH (out ++ List.replicate m 0) ds⟩)
  | 0, out, h, hl => by
    rw [List.replicate_zero, List.append_nil]
    exact d1_e out ds d n k (by omega)
  | m + 1, out, h, hl => by
    rw [d1_s out ds d n k hl (by omega), d1_l ds d n k hd m (out ++ [0]) (by simp; omega) (by simp; omega), List.append_assoc, List.replicate_succ]
    rfl
theorem d0_n (out ds : List Int) (k : Nat) (d : Int) (hk : k < ds.length) (hb : ds.length ≤ 60) (hx : ∀ z, ds.getD k z = d) (h : d < 0) : loopOf pr 8 0 ⟨D0T ds.length k, DH out ds⟩ = loopOf pr 8 0 ⟨D0T ds.length ((k + 1 : Nat) : Int), DH out ds⟩ := by
  have hw : IntKind.i64.wrap ((k : Int) + 1) = ((k + 1 : Nat) : Int) := by rw [wrap_i] <;> omega
  have g := d1_e out ds d ds.length k (by omega)
  have h0 : (0 ≤ d) = False := fa (by omega)
  rw [loop_eq pr 8 0 _ Try.f8 fn_8 _ rfl _ ann_8 _ rfl]
  simp -implicitDefEqProofs only [lt_cast hk, hx, hw, g, h0, ge_iff_le, zero_le_cast, Int.toNat_natCast, go_sem, Nat.reduceAdd, Nat.reduceSub, Nat.reduceMul, Nat.reduceMod, Nat.reduceLT, Nat.reduceLeDiff, Nat.reduceEqDiff, Nat.reduceBEq, Nat.reduceDiv, Int.reduceLT, Int.reduceLE, Int.reduceToNat, Int.reduceNeg, Int.reduceEq, ↓reduceIte, reduceCtorEq, ↓reduceDIte]
theorem d0_p (out ds : List Int) (k d : Nat) (v : Int) (hk : k < ds.length) (hb : ds.length ≤ 60) (hx : ∀ z, ds.getD k z = (d : Int)) (hd : d ≤ 59) (hl : out.length ≤ 60) (hv : 0 ≤ v ∧ v ≤ 100) (hg : ∀ z, (out ++ List.replicate (d + 1 - out.length) 0).getD d z = v) : loopOf pr 8 0 ⟨D0T ds.length k, DH out ds⟩ = loopOf pr 8 0 ⟨D0T ds.length ((k + 1 : Nat) : Int), DH ((out ++ List.replicate (d + 1 - out.length) 0).set d (v + 1)) ds⟩ := by
  have hw : IntKind.i64.wrap ((k : Int) + 1) = ((k + 1 : Nat) : Int) := by rw [wrap_i] <;> omega
  have hw2 : IntKind.i64.wrap (v + 1) = v + 1 := by rw [wrap_i] <;> omega
  have g := d1_l ds d ds.length k (by omega) (d + 1 - out.length) out rfl (by omega)
  have h0 : (0 ≤ (d : Int)) = True := tr (by omega)
  have hll : d < (out ++ List.replicate (d + 1 - out.length) 0).length := by simp; omega
  generalize out ++ List.replicate (d + 1 - out.length) 0 = o2 at *
  rw [loop_eq pr 8 0 _ Try.f8 fn_8 _ rfl _ ann_8 _ rfl]
  simp -implicitDefEqProofs only [lt_cast hk, hx, hw, hw2, g, h0, hg, lt_cast hll, ge_iff_le, zero_le_cast, Int.toNat_natCast, go_sem, Nat.reduceAdd, Nat.reduceSub, Nat.reduceMul, Nat.reduceMod, Nat.reduceLT, Nat.reduceLeDiff, Nat.reduceEqDiff, Nat.reduceBEq, Nat.reduceDiv, Int.reduceLT, Int.reduceLE, Int.reduceToNat, Int.reduceNeg, Int.reduceEq, ↓reduceIte, reduceCtorEq, ↓reduceDIte]
theorem d0_e (out ds : List Int) : loopOf pr 8 0 ⟨D0T ds.length ds.length, DH out ds⟩ = some (.exit 0, ⟨D0T ds.length ds.length, DH out ds⟩) := by
  rw [loop_eq pr 8 0 _ Try.f8 fn_8 _ rfl _ ann_8 _ rfl]
  simp -implicitDefEqProofs only [Int.lt_irrefl, go_sem, Nat.reduceAdd, Nat.reduceSub, Nat.reduceMul, Nat.reduceMod, Nat.reduceLT, Nat.reduceLeDiff, Nat.reduceEqDiff, Nat.reduceBEq, Nat.reduceDiv, Int.reduceLT, Int.reduceLE, Int.reduceToNat, Int.reduceNeg, Int.reduceEq, ↓reduceIte, reduceCtorEq, ↓reduceDIte]
theorem d0_l (ds : List Int) (hb : ds.length ≤ 60) (hr : ∀ d ∈ ds, d < 60) : ∀ (suf : List Int) (k : Nat), ds.drop k = suf → k ≤ ds.length → loopOf pr 8 0 ⟨D0T ds.length k, DH (histL [] (ds.take k)) ds⟩ = some (.exit 0, ⟨D0T ds.length ds.length, DH (histL [] ds) ds⟩)
  | [], k, e, hk => by
    have hk2 : k = ds.length := by
      have := congrArg List.length e
      simp only [List.length_drop, List.length_nil] at this
      omega
    subst hk2
    rw [List.take_length]
    exact d0_e _ ds
  | d :: suf, k, e, hk => by
    have hlt : k < ds.length := by
      have := congrArg List.length e
      simp only [List.length_drop, List.length_cons] at this
      omega
    have ha0 : ds[k]? = some d := by
      have := congrArg (·[0]?) e
      simpa using this
    have hx : ∀ z, ds.getD k z = d := fun z => by simp [List.getD, ha0]
    have hdr := hr d (List.mem_of_getElem? ha0)
    have e' : ds.drop (k + 1) = suf := by
      have := congrArg (·.drop 1) e
      simpa using this
    have ih := d0_l ds hb hr suf (k + 1) e' (by omega)
    have htk : ds.take (k + 1) = ds.take k ++ [d] := by rw [List.take_add_one, ha0]; rfl
    rw [htk, hist_snoc] at ih
    have hlen := hist_length (ds.take k) [] 60 (by simp) (fun x hx => hr x (List.mem_of_mem_take hx))
    rw [← ih]
    by_cases h0 : d < 0
    · have : bumpL (histL [] (ds.take k)) d = histL [] (ds.take k) := by unfold bumpL; rw [if_pos h0]
      rw [this]
      exact d0_n _ ds k d hlt hb hx h0
    · obtain ⟨j, rfl⟩ : ∃ j : Nat, d = j := ⟨d.toNat, by omega⟩
      have hv := hist_getD j (ds.take k) []
      have hle := eqN_le (ds.take k) j
      have htl : (ds.take k).length ≤ 60 := by simp; omega
      generalize histL [] (ds.take k) = out at *
      have hpad := pad_getD out (j + 1 - out.length) j
      have hval : ∀ z, (out ++ List.replicate (j + 1 - out.length) 0).getD j z = (eqN (ds.take k) j : Int) := fun z => by
        have hjl : j < (out ++ List.replicate (j + 1 - out.length) 0).length := by simp; omega
        have h1 : (out ++ List.replicate (j + 1 - out.length) 0).getD j z = (out ++ List.replicate (j + 1 - out.length) 0).getD j 0 := by rw [getD_of_lt hjl, getD_of_lt hjl]
        rw [h1, hpad, hv]
        simp
      have hb2 : bumpL out (j : Int) = (out ++ List.replicate (j + 1 - out.length) 0).set j ((eqN (ds.take k) j : Int) + 1) := by
        unfold bumpL
        rw [if_neg h0, Int.toNat_natCast, hval 0]
      rw [hb2]
      exact d0_p out ds k j _ hlt hb hx (by omega) hlen ⟨by omega, by omega⟩ hval
theorem call_dc (us : List Int) (hb : us.length ≤ 13) (hv : validU us = true) : callOf pr 8 [L us] [] = some (.tuple [.os (.t 640), B true], [(640, .arr true false (.int .i64) (histL [] (distL [] us)))]) := by
  have g1 := call_vu us (by omega)
  rw [hv] at g1
  have g3 := call_di us (by omega)
  have hdl := distL_length us []
  have hlt := distL_lt us []
  have g4 := d0_l (distL [] us) (by omega) (fun d hd => by have := hlt d hd; simp at this; omega) (distL [] us) 0 rfl (by omega)
  generalize distL [] us = ds at *
  have g4 : loopOf pr 8 0 ⟨[(4, .os (.t 640)), (12, .os (.t 768)), (13, I ds.length), (14, I 0)], [(640, .arr true false (.int .i64) []), (768, .arr true false (.int .i64) ds)]⟩ = _ := g4
  generalize histL [] ds = out at *
  rw [call_eq pr 8 _ _ Try.f8 fn_8 _ rfl _ ann_8 rfl]
  simp -implicitDefEqProofs only [g1, g3, g4, go_sem, Nat.reduceAdd, Nat.reduceSub, Nat.reduceMul, Nat.reduceMod, Nat.reduceLT, Nat.reduceLeDiff, Nat.reduceEqDiff, Nat.reduceBEq, Nat.reduceDiv, Int.reduceLT, Int.reduceLE, Int.reduceToNat, Int.reduceNeg, Int.reduceEq, ↓reduceIte, reduceCtorEq, ↓reduceDIte]
theorem sm_s (xs : List Int) (t x t' : Int) (k : Nat) (hk : k < xs.length) (hb : xs.length < 1000000) (hx : ∀ z, xs.getD k z = x) (ht : IntKind.i64.wrap (t + x) = t') : loopOf pr 9 0 ⟨[(0, L xs), (3, I t), (4, I k)], []⟩ = loopOf pr 9 0 ⟨[(0, L xs), (3, I t'), (4, I ((k + 1 : Nat) : Int))], []⟩ := by
  have hw : IntKind.i64.wrap ((k : Int) + 1) = ((k + 1 : Nat) : Int) := by rw [wrap_i] <;> omega
  rw [loop_eq pr 9 0 _ Try.f9 fn_9 _ rfl _ ann_9 _ rfl]
  simp -implicitDefEqProofs only [lt_cast hk, zero_le_cast, Int.toNat_natCast, hx, ht, hw, go_sem, Nat.reduceAdd, Nat.reduceSub, Nat.reduceMul, Nat.reduceMod, Nat.reduceLT, Nat.reduceLeDiff, Nat.reduceEqDiff, Nat.reduceBEq, Nat.reduceDiv, Int.reduceLT, Int.reduceLE, Int.reduceToNat, Int.reduceNeg, Int.reduceEq, ↓reduceIte, reduceCtorEq, ↓reduceDIte]
theorem sm_e (xs : List Int) (t : Int) : loopOf pr 9 0 ⟨[(0, L xs), (3, I t), (4, I xs.length)], []⟩ = some (.exit 0, ⟨[(0, L xs), (3, I t), (4, I xs.length)], []⟩) := by
  rw [loop_eq pr 9 0 _ Try.f9 fn_9 _ rfl _ ann_9 _ rfl]
  simp -implicitDefEqProofs only [Int.lt_irrefl, go_sem, Nat.reduceAdd, Nat.reduceSub, Nat.reduceMul, Nat.reduceMod, Nat.reduceLT, Nat.reduceLeDiff, Nat.reduceEqDiff, Nat.reduceBEq, Nat.reduceDiv, Int.reduceLT, Int.reduceLE, Int.reduceToNat, Int.reduceNeg, Int.reduceEq, ↓reduceIte, reduceCtorEq, ↓reduceDIte]
theorem sum_bd : ∀ l : List Int, (∀ x ∈ l, 0 ≤ x ∧ x ≤ 100) → 0 ≤ l.sum ∧ l.sum ≤ 100 * l.length
  | [], _ => by simp
  | x :: l, h => by
    have ih := sum_bd l (fun y hy => h y (by simp [hy]))
    have := h x (by simp)
    simp only [List.sum_cons, List.length_cons]
    omega
theorem sm_l (xs : List Int) (hb : xs.length < 1000) (h : ∀ x ∈ xs, 0 ≤ x ∧ x ≤ 100) : ∀ (suf pre : List Int), xs = pre ++ suf → loopOf pr 9 0 ⟨[(0, L xs), (3, I pre.sum), (4, I pre.length)], []⟩ = some (.exit 0, ⟨[(0, L xs), (3, I xs.sum), (4, I xs.length)], []⟩)
  | [], pre, e => by
    have e' : pre = xs := by rw [e, List.append_nil]
    rw [e']
    exact sm_e xs xs.sum
  | x :: suf, pre, e => by
    have hl : pre.length < xs.length := by rw [e]; simp
    have hp := sum_bd pre (fun y hy => h y (by rw [e]; simp [hy]))
    have hx := h x (by rw [e]; simp)
    have hsum : (pre ++ [x]).sum = pre.sum + x := by simp
    have hw : IntKind.i64.wrap (pre.sum + x) = (pre ++ [x]).sum := by rw [hsum, wrap_i] <;> omega
    rw [sm_s xs pre.sum x (pre ++ [x]).sum pre.length hl (by omega) (fun z => by rw [e]; simp) hw]
    have ih := sm_l xs hb h suf (pre ++ [x]) (by rw [e]; simp)
    rw [show (pre ++ [x]).length = pre.length + 1 by simp] at ih
    exact ih
theorem call_su (xs : List Int) (hb : xs.length < 1000) (h : ∀ x ∈ xs, 0 ≤ x ∧ x ≤ 100) : callOf pr 9 [L xs] [] = some (I xs.sum, []) := by
  have h1 := sm_l xs hb h xs [] rfl
  have h1 : loopOf pr 9 0 ⟨[(0, L xs), (3, I 0), (4, I 0)], []⟩ = _ := h1
  rw [call_eq pr 9 _ _ Try.f9 fn_9 _ rfl _ ann_9 rfl]
  simp -implicitDefEqProofs only [h1, go_sem, Nat.reduceAdd, Nat.reduceSub, Nat.reduceMul, Nat.reduceMod, Nat.reduceLT, Nat.reduceLeDiff, Nat.reduceEqDiff, Nat.reduceBEq, Nat.reduceDiv, Int.reduceLT, Int.reduceLE, Int.reduceToNat, Int.reduceNeg, Int.reduceEq, ↓reduceIte, reduceCtorEq, ↓reduceDIte]
abbrev WTn (b : List Int) (k : Int) : Slots := [(1, BY b), (5, .os (.t 1664)), (6, .os (.t 1856)), (8, .nilS), (10, .os (.t 2496)), (12, I k)]
abbrev WHn (us cs st hs : List Int) : Heap := [(1664, .arr true false (.int .i64) us), (1856, .arr true false (.int .i64) cs), (2496, .arr true false (.int .i64) hs)]
theorem w0n_s (b us cs st hs : List Int) (k : Nat) (p q h : Int) (hk : 1 ≤ k ∧ k < cs.length) (hc : cs.length ≤ 21) (hp : ∀ z, cs.getD (k - 1) z = p) (hq : ∀ z, cs.getD k z = q) (hh : if k ≤ hs.length then (∀ z, hs.getD (k - 1) z = h) else h = 0) (hpq : IntKind.i64.wrap (p - q) = h) :
    loopOf pr 3 0 ⟨WTn b k, WHn us cs st hs⟩ = loopOf pr 3 0 ⟨WTn b ((k + 1 : Nat) : Int), WHn us cs st hs⟩ := by
  have hw : IntKind.i64.wrap ((k : Int) + 1) = ((k + 1 : Nat) : Int) := by rw [wrap_i] <;> omega
  have hw1 : IntKind.i64.wrap ((k : Int) - 1) = ((k - 1 : Nat) : Int) := by rw [wrap_i] <;> omega
  have e1 : (((k - 1 : Nat) : Int) < (cs.length : Int)) = True := tr (by omega)
  rw [loop_eq pr 3 0 _ Try.f3 fn_3 _ rfl _ ann_3 _ rfl]
  by_cases hl : k ≤ hs.length
  · rw [if_pos hl] at hh
    have e2 : ((k : Int) ≤ (hs.length : Int)) = True := tr (by omega)
    have e3 : (((k - 1 : Nat) : Int) < (hs.length : Int)) = True := tr (by omega)
    simp -implicitDefEqProofs only [lt_cast hk.2, hw, hw1, e1, e2, e3, hp, hq, hh, hpq, zero_le_cast, Int.toNat_natCast, go_sem, Nat.reduceAdd, Nat.reduceSub, Nat.reduceMul, Nat.reduceMod, Nat.reduceLT, Nat.reduceLeDiff, Nat.reduceEqDiff, Nat.reduceBEq, Nat.reduceDiv, Int.reduceLT, Int.reduceLE, Int.reduceToNat, Int.reduceNeg, Int.reduceEq, ↓reduceIte, reduceCtorEq, ↓reduceDIte]
  · rw [if_neg hl] at hh
    subst hh
    have e2 : ((k : Int) ≤ (hs.length : Int)) = False := fa (by omega)
    simp -implicitDefEqProofs only [lt_cast hk.2, hw, hw1, e1, e2, hp, hq, hpq, zero_le_cast, Int.toNat_natCast, go_sem, Nat.reduceAdd, Nat.reduceSub, Nat.reduceMul, Nat.reduceMod, Nat.reduceLT, Nat.reduceLeDiff, Nat.reduceEqDiff, Nat.reduceBEq, Nat.reduceDiv, Int.reduceLT, Int.reduceLE, Int.reduceToNat, Int.reduceNeg, Int.reduceEq, ↓reduceIte, reduceCtorEq, ↓reduceDIte]
theorem w0n_e (b us cs st hs : List Int) : loopOf pr 3 0 ⟨WTn b cs.length, WHn us cs st hs⟩ = some (.exit 0, ⟨WTn b cs.length, WHn us cs st hs⟩) := by
  rw [loop_eq pr 3 0 _ Try.f3 fn_3 _ rfl _ ann_3 _ rfl]
  simp -implicitDefEqProofs only [Int.lt_irrefl, go_sem, Nat.reduceAdd, Nat.reduceSub, Nat.reduceMul, Nat.reduceMod, Nat.reduceLT, Nat.reduceLeDiff, Nat.reduceEqDiff, Nat.reduceBEq, Nat.reduceDiv, Int.reduceLT, Int.reduceLE, Int.reduceToNat, Int.reduceNeg, Int.reduceEq, ↓reduceIte, reduceCtorEq, ↓reduceDIte]
theorem w0n_l (b us ds st : List Int) (hd : ds.length ≤ 60) : ∀ (j k : Nat), k + j = 21 → 1 ≤ k → loopOf pr 3 0 ⟨WTn b k, WHn us (curveL ds 21) st (histL [] ds)⟩ = some (.exit 0, ⟨WTn b 21, WHn us (curveL ds 21) st (histL [] ds)⟩)
  | 0, k, h, h1 => by
    have hl := curveL_length ds 21
    obtain rfl : k = (curveL ds 21).length := by omega
    have h := w0n_e b us (curveL ds 21) st (histL [] ds)
    rw [h, hl]
    rfl
  | j + 1, k, h, h1 => by
    have hl := curveL_length ds 21
    have hst := curveN_step ds (k - 1)
    rw [show k - 1 + 1 = k by omega] at hst
    have hle := curveN_le ds (k - 1)
    have hg := hist_getD (k - 1) ds []
    simp only [List.getD_nil] at hg
    rw [w0n_s b us (curveL ds 21) st (histL [] ds) k (curveN ds (k - 1)) (curveN ds k) (eqN ds (k - 1)) ⟨h1, by omega⟩ (by omega) (fun z => curveL_getD ds (by omega) z) (fun z => curveL_getD ds (by omega) z) (by
      split
      · rename_i hkl
        intro z
        have : (histL [] ds).getD (k - 1) z = (histL [] ds).getD (k - 1) 0 := by rw [getD_of_lt (show k - 1 < (histL [] ds).length by omega), getD_of_lt (show k - 1 < (histL [] ds).length by omega)]
        rw [this, hg]; omega
      · rename_i hkl
        have : (histL [] ds).getD (k - 1) 0 = 0 := by simp only [List.getD]; rw [List.getElem?_eq_none (by omega)]; rfl
        omega) (by rw [wrap_i] <;> omega)]
    exact w0n_l b us ds st hd j (k + 1) (by omega) (by omega)
abbrev WTs (b : List Int) (k : Int) : Slots := [(1, BY b), (5, .os (.t 1664)), (6, .os (.t 1856)), (8, .os (.t 2176)), (10, .os (.t 2496)), (12, I k)]
abbrev WHs (us cs st hs : List Int) : Heap := [(1664, .arr true false (.int .i64) us), (1856, .arr true false (.int .i64) cs), (2176, .arr true false (.int .i64) st),(2496, .arr true false (.int .i64) hs)]
theorem w0s_s (b us cs st hs : List Int) (k : Nat) (p q h : Int) (hk : 1 ≤ k ∧ k < cs.length) (hc : cs.length ≤ 21) (hp : ∀ z, cs.getD (k - 1) z = p) (hq : ∀ z, cs.getD k z = q) (hh : if k ≤ hs.length then (∀ z, hs.getD (k - 1) z = h) else h = 0) (hpq : IntKind.i64.wrap (p - q) = h) :
    loopOf pr 3 0 ⟨WTs b k, WHs us cs st hs⟩ = loopOf pr 3 0 ⟨WTs b ((k + 1 : Nat) : Int), WHs us cs st hs⟩ := by
  have hw : IntKind.i64.wrap ((k : Int) + 1) = ((k + 1 : Nat) : Int) := by rw [wrap_i] <;> omega
  have hw1 : IntKind.i64.wrap ((k : Int) - 1) = ((k - 1 : Nat) : Int) := by rw [wrap_i] <;> omega
  have e1 : (((k - 1 : Nat) : Int) < (cs.length : Int)) = True := tr (by omega)
  rw [loop_eq pr 3 0 _ Try.f3 fn_3 _ rfl _ ann_3 _ rfl]
  by_cases hl : k ≤ hs.length
  · rw [if_pos hl] at hh
    have e2 : ((k : Int) ≤ (hs.length : Int)) = True := tr (by omega)
    have e3 : (((k - 1 : Nat) : Int) < (hs.length : Int)) = True := tr (by omega)
    simp -implicitDefEqProofs only [lt_cast hk.2, hw, hw1, e1, e2, e3, hp, hq, hh, hpq, zero_le_cast, Int.toNat_natCast, go_sem, Nat.reduceAdd, Nat.reduceSub, Nat.reduceMul, Nat.reduceMod, Nat.reduceLT, Nat.reduceLeDiff, Nat.reduceEqDiff, Nat.reduceBEq, Nat.reduceDiv, Int.reduceLT, Int.reduceLE, Int.reduceToNat, Int.reduceNeg, Int.reduceEq, ↓reduceIte, reduceCtorEq, ↓reduceDIte]
  · rw [if_neg hl] at hh
    subst hh
    have e2 : ((k : Int) ≤ (hs.length : Int)) = False := fa (by omega)
    simp -implicitDefEqProofs only [lt_cast hk.2, hw, hw1, e1, e2, hp, hq, hpq, zero_le_cast, Int.toNat_natCast, go_sem, Nat.reduceAdd, Nat.reduceSub, Nat.reduceMul, Nat.reduceMod, Nat.reduceLT, Nat.reduceLeDiff, Nat.reduceEqDiff, Nat.reduceBEq, Nat.reduceDiv, Int.reduceLT, Int.reduceLE, Int.reduceToNat, Int.reduceNeg, Int.reduceEq, ↓reduceIte, reduceCtorEq, ↓reduceDIte]
theorem w0s_e (b us cs st hs : List Int) : loopOf pr 3 0 ⟨WTs b cs.length, WHs us cs st hs⟩ = some (.exit 0, ⟨WTs b cs.length, WHs us cs st hs⟩) := by
  rw [loop_eq pr 3 0 _ Try.f3 fn_3 _ rfl _ ann_3 _ rfl]
  simp -implicitDefEqProofs only [Int.lt_irrefl, go_sem, Nat.reduceAdd, Nat.reduceSub, Nat.reduceMul, Nat.reduceMod, Nat.reduceLT, Nat.reduceLeDiff, Nat.reduceEqDiff, Nat.reduceBEq, Nat.reduceDiv, Int.reduceLT, Int.reduceLE, Int.reduceToNat, Int.reduceNeg, Int.reduceEq, ↓reduceIte, reduceCtorEq, ↓reduceDIte]
theorem w0s_l (b us ds st : List Int) (hd : ds.length ≤ 60) : ∀ (j k : Nat), k + j = 21 → 1 ≤ k → loopOf pr 3 0 ⟨WTs b k, WHs us (curveL ds 21) st (histL [] ds)⟩ = some (.exit 0, ⟨WTs b 21, WHs us (curveL ds 21) st (histL [] ds)⟩)
  | 0, k, h, h1 => by
    have hl := curveL_length ds 21
    obtain rfl : k = (curveL ds 21).length := by omega
    have h := w0s_e b us (curveL ds 21) st (histL [] ds)
    rw [h, hl]
    rfl
  | j + 1, k, h, h1 => by
    have hl := curveL_length ds 21
    have hst := curveN_step ds (k - 1)
    rw [show k - 1 + 1 = k by omega] at hst
    have hle := curveN_le ds (k - 1)
    have hg := hist_getD (k - 1) ds []
    simp only [List.getD_nil] at hg
    rw [w0s_s b us (curveL ds 21) st (histL [] ds) k (curveN ds (k - 1)) (curveN ds k) (eqN ds (k - 1)) ⟨h1, by omega⟩ (by omega) (fun z => curveL_getD ds (by omega) z) (fun z => curveL_getD ds (by omega) z) (by
      split
      · rename_i hkl
        intro z
        have : (histL [] ds).getD (k - 1) z = (histL [] ds).getD (k - 1) 0 := by rw [getD_of_lt (show k - 1 < (histL [] ds).length by omega), getD_of_lt (show k - 1 < (histL [] ds).length by omega)]
        rw [this, hg]; omega
      · rename_i hkl
        have : (histL [] ds).getD (k - 1) 0 = 0 := by simp only [List.getD]; rw [List.getElem?_eq_none (by omega)]; rfl
        omega) (by rw [wrap_i] <;> omega)]
    exact w0s_l b us ds st hd j (k + 1) (by omega) (by omega)
def validS (hit : List (List Int)) (miss : List Int) : Bool := decide (1 ≤ miss.length ∧ miss.length ≤ 6 ∧ hit.length = miss.length) && (sorderB miss miss.length && hit.all fun l => sorderB l miss.length)
theorem validS_eq (hit : List (List Int)) (miss : List Int) : validP hit miss = validS hit miss := by simp only [validP, validS, order_eq]
theorem lru_valid0 : ∀ n : Fin 6, validS (lruH (n.1 + 1)) (mvF (n.1 + 1) n.1) = true := by
  decide +kernel
theorem lru_valid {n : Nat} (hn : 1 ≤ n ∧ n ≤ 6) : validP (lruH n) (mvF n (n - 1)) = true := by
  have := lru_valid0 ⟨n - 1, by omega⟩
  rw [validS_eq]
  simp only [Nat.sub_add_cancel hn.1] at this
  exact this
theorem table_len {n : Nat} (hn : 1 ≤ n ∧ n ≤ 6) : ∀ l ∈ lruH n, l.length < 1000000000000000000 := by
  intro l hl
  obtain ⟨i, hi, rfl⟩ := List.mem_map.1 hl
  rw [mvF_len (List.mem_range.1 hi) hn.2]; omega
/-- The misses of the policy are those of the curve. -/
theorem call_mo (us : List Int) (hb : us.length ≤ 13) (hv : validU us = true) (hu : ∀ x ∈ us, 0 ≤ x) (k : Nat) (hk : 1 ≤ k ∧ k ≤ 6) : callOf pr 11 [.agg [LL (lruH k), L (mvF k (k - 1))], L us] [] = some (.tuple [I (curveN (distL [] us) k), B true], []) := by
  have hm : (mvF k (k - 1)).length = k := mvF_len (by omega) hk.2
  have f1 : fair (lruH k) (mvF k (k - 1)) us = true := by simp only [fair, lru_valid hk, hv, Bool.and_self]
  have g5 := call_imo (lruH k) (mvF k (k - 1)) (by simp [lruH]; omega) (by omega) (table_len hk) us (by omega)
  rw [if_pos f1] at g5
  have he : emptyC (mvF k (k - 1)) = List.replicate k (-1) := by rw [emptyC, hm]
  have hc := lru_curve hk.1 us [] hu
  rw [keep_empty] at hc
  rw [he, hc] at g5
  exact g5
theorem okBy_of4 {a : List Int} (hw : Ty.WF (.slice (.int .u8)) a) (hl : ¬ 48 < (a.length : Int)) : okBy a := by
  refine ⟨by omega, fun x hx => ?_⟩
  have h1 := hw.2 x hx
  have h2 : IntKind.u8.min ≤ x ∧ x ≤ IntKind.u8.max := h1
  have h3 : IntKind.u8.min = 0 ∧ IntKind.u8.max = 255 := by decide
  omega
abbrev VTn (b : List Int) (k : Int) : Slots := [(1, BY b), (5, .os (.t 1664)), (6, .os (.t 1856)), (8, .nilS), (14, I k)]
abbrev VHn (us cs st : List Int) : Heap := [(1664, .arr true false (.int .i64) us), (1856, .arr true false (.int .i64) cs)]
theorem w1n_s (b us cs st ms : List Int) (hit : List (List Int)) (k : Nat) (m : Int) (hk : 1 ≤ k ∧ k ≤ 6) (hl : cs.length = 21) (hc : ∀ z, cs.getD k z = m)
    (g1 : callOf pr 10 [I k] [] = some (.tuple [.agg [.os (.t 448), .os (.t 449)], B true], [(448, .arr true true (.slice (.int .i64)) hit), (449, .arr true false (.int .i64) ms)]))
    (g2 : callOf pr 11 [.agg [LL hit, L ms], L us] [] = some (.tuple [I m, B true], [])) :
    loopOf pr 3 1 ⟨VTn b k, VHn us cs st⟩ = loopOf pr 3 1 ⟨VTn b ((k + 1 : Nat) : Int), VHn us cs st⟩ := by
  have hw : IntKind.i64.wrap ((k : Int) + 1) = ((k + 1 : Nat) : Int) := by rw [wrap_i] <;> omega
  have e1 : ((k : Int) ≤ 6) = True := tr (by omega)
  have e2 : ((k : Int) < (cs.length : Int)) = True := tr (by omega)
  rw [loop_eq pr 3 1 _ Try.f3 fn_3 _ rfl _ ann_3 _ rfl]
  simp -implicitDefEqProofs only [e1, e2, hw, g1, g2, hc, zero_le_cast, Int.toNat_natCast, go_sem, Nat.reduceAdd, Nat.reduceSub, Nat.reduceMul, Nat.reduceMod, Nat.reduceLT, Nat.reduceLeDiff, Nat.reduceEqDiff, Nat.reduceBEq, Nat.reduceDiv, Int.reduceLT, Int.reduceLE, Int.reduceToNat, Int.reduceNeg, Int.reduceEq, ↓reduceIte, reduceCtorEq, ↓reduceDIte]
theorem w1n_e (b us cs st : List Int) : loopOf pr 3 1 ⟨VTn b 7, VHn us cs st⟩ = some (.exit 2, ⟨VTn b 7, VHn us cs st⟩) := by
  rw [loop_eq pr 3 1 _ Try.f3 fn_3 _ rfl _ ann_3 _ rfl]
  simp -implicitDefEqProofs only [show ((7 : Int) ≤ 6) = False from fa (by omega), go_sem, Nat.reduceAdd, Nat.reduceSub, Nat.reduceMul, Nat.reduceMod, Nat.reduceLT, Nat.reduceLeDiff, Nat.reduceEqDiff, Nat.reduceBEq, Nat.reduceDiv, Int.reduceLT, Int.reduceLE, Int.reduceToNat, Int.reduceNeg, Int.reduceEq, ↓reduceIte, reduceCtorEq, ↓reduceDIte]
theorem w1n_l (b us st : List Int) (hb : us.length ≤ 13) (hv : validU us = true) (hu : ∀ x ∈ us, 0 ≤ x) : ∀ (j k : Nat), k + j = 7 → 1 ≤ k → loopOf pr 3 1 ⟨VTn b k, VHn us (curveL (distL [] us) 21) st⟩ = some (.exit 2, ⟨VTn b 7, VHn us (curveL (distL [] us) 21) st⟩)
  | 0, k, h, h1 => by
    obtain rfl : k = 7 := by omega
    exact w1n_e b us _ st
  | j + 1, k, h, h1 => by
    rw [w1n_s b us (curveL (distL [] us) 21) st (mvF k (k - 1)) (lruH k) k (curveN (distL [] us) k) ⟨h1, by omega⟩ (curveL_length _ _) (fun z => curveL_getD _ (by omega) z) (pol k (by omega) (by omega)) (call_mo us hb hv hu k ⟨h1, by omega⟩)]
    exact w1n_l b us st hb hv hu j (k + 1) (by omega) (by omega)
theorem w2n (a b us cs st hs : List Int) (few : Nat) (hst : st = []) (hus : us.length = 0)
    (g0 : callOf pr 4 [BY a, BY b] [] = some (B false, []))
    (g1 : callOf pr 5 [BY a] [] = some (.os (.t 1024), [(1024, .arr true false (.int .i64) us)]))
    (g2 : callOf pr 6 [L us, I 20] [] = some (.tuple [.os (.t 1088), B true], [(1088, .arr true false (.int .i64) cs)]))
    (g3 : callOf pr 7 [L us] [] = some (.tuple [.nilS, B true], []))
    (g4 : callOf pr 8 [L us] [] = some (.tuple [.os (.t 640), B true], [(640, .arr true false (.int .i64) hs)]))
    (g5 : callOf pr 9 [L hs] [] = some (I hs.sum, []))
    (hl : cs.length = 21) (c0 : ∀ z, cs.getD 0 z = (us.length : Int)) (c20 : ∀ z, cs.getD 20 z = (st.length : Int)) (hsum : IntKind.i64.wrap ((us.length : Int) - (st.length : Int)) = hs.sum)
    (h0 : loopOf pr 3 0 ⟨WTn b 1, WHn us cs st hs⟩ = some (.exit 0, ⟨WTn b 21, WHn us cs st hs⟩))
    (h1 : loopOf pr 3 1 ⟨VTn b 1, VHn us cs st⟩ = some (.exit 2, ⟨VTn b 7, VHn us cs st⟩))
    (g6 : callOf pr 12 [BY b, I 0, I 14] [] = some (I few, []))
    (g7 : ((few : Int) < (st.length : Int) ∧ callOf pr 13 [L us, I few] [] = some (.tuple [I 0, B false], [])) ∨
      ∃ (k : Nat) (p q : Int), ¬ (few : Int) < (st.length : Int) ∧ k ≤ 20 ∧ (∀ z, cs.getD k z = p) ∧ p ≤ few ∧ (k = 0 ∨ ((∀ z, cs.getD (k - 1) z = q) ∧ (few : Int) < q)) ∧ callOf pr 13 [L us, I few] [] = some (.tuple [I k, B true], [])) :
    callOf pr 3 [BY a, BY b] [] = some (B true, []) := by
  subst hst
  have hs0 : hs.sum = 0 := by rw [← hsum, hus]; decide
  have c9 : (0 ≤ (few : Int)) = True := tr (by omega)
  have hl2 : ((cs.length : Int) = 21) := by omega
  have lx : (0 : Int) = 0 := rfl
  rcases g7 with ⟨hf, g7⟩ | ⟨k, p, q, hf, hk, hp, hpf, hq, g7⟩
  · have c3 : (((([] : List Int).length : Nat) : Int) ≤ (few : Int)) = False := fa (by omega)
    exfalso; simp only [List.length_nil] at hf; omega
    --
    --
  · have c3 : (((([] : List Int).length : Nat) : Int) ≤ (few : Int)) = True := tr (by omega)
    have c4 : ((k : Int) ≤ 20) = True := tr (by omega)
    have c5 : ((k : Int) < 21) = True := tr (by omega)
    have c6 : (0 ≤ (k : Int)) = True := tr (by omega)
    by_cases hk0 : k = 0
    · subst hk0
      have hpe : p = (us.length : Int) := by rw [← hp 0, c0 0]
      rw [hpe] at hpf
      have c10 : ((us.length : Int) ≤ (few : Int)) = True := tr hpf
      rw [call_eq pr 3 _ _ Try.f3 fn_3 _ rfl _ ann_3 rfl]
      simp -implicitDefEqProofs only [g0, g1, g2, g3, g4, g5, hl2, c0, c20, hsum, h0, h1, g6, g7, c3, c4, c5, c6, c10, ge_iff_le, gt_iff_lt, Int.toNat_natCast, Int.natCast_zero, hus, List.length_nil, Int.natCast_zero, Int.sub_zero, show IntKind.i64.wrap 0 = 0 from by decide, hs0, c9, show (true == true) = true from rfl, go_sem, Nat.reduceAdd, Nat.reduceSub, Nat.reduceMul, Nat.reduceMod, Nat.reduceLT, Nat.reduceLeDiff, Nat.reduceEqDiff, Nat.reduceBEq, Nat.reduceDiv, Int.reduceLT, Int.reduceLE, Int.reduceToNat, Int.reduceNeg, Int.reduceEq, ↓reduceIte, reduceCtorEq, ↓reduceDIte]
    · rcases hq with hq | ⟨hq, hqf⟩
      · exact absurd hq hk0
      · have c7 : ((k : Int) = 0) = False := fa (by omega)
        have hw : IntKind.i64.wrap ((k : Int) - 1) = ((k - 1 : Nat) : Int) := by rw [wrap_i] <;> omega
        have c8 : (((k - 1 : Nat) : Int) < 21) = True := tr (by omega)
        rw [call_eq pr 3 _ _ Try.f3 fn_3 _ rfl _ ann_3 rfl]
        simp -implicitDefEqProofs only [g0, g1, g2, g3, g4, g5, hl2, c0, c20, hsum, h0, h1, g6, g7, c3, c4, c5, c6, c7, c8, hw, hq, tr hqf, ge_iff_le, gt_iff_lt, tr hpf, hp, zero_le_cast, Int.toNat_natCast, hus, List.length_nil, Int.natCast_zero, Int.sub_zero, show IntKind.i64.wrap 0 = 0 from by decide, hs0, c9, show (true == true) = true from rfl, go_sem, Nat.reduceAdd, Nat.reduceSub, Nat.reduceMul, Nat.reduceMod, Nat.reduceLT, Nat.reduceLeDiff, Nat.reduceEqDiff, Nat.reduceBEq, Nat.reduceDiv, Int.reduceLT, Int.reduceLE, Int.reduceToNat, Int.reduceNeg, Int.reduceEq, ↓reduceIte, reduceCtorEq, ↓reduceDIte]
abbrev VTs (b : List Int) (k : Int) : Slots := [(1, BY b), (5, .os (.t 1664)), (6, .os (.t 1856)), (8, .os (.t 2176)), (14, I k)]
abbrev VHs (us cs st : List Int) : Heap := [(1664, .arr true false (.int .i64) us), (1856, .arr true false (.int .i64) cs), (2176, .arr true false (.int .i64) st)]
theorem w1s_s (b us cs st ms : List Int) (hit : List (List Int)) (k : Nat) (m : Int) (hk : 1 ≤ k ∧ k ≤ 6) (hl : cs.length = 21) (hc : ∀ z, cs.getD k z = m)
    (g1 : callOf pr 10 [I k] [] = some (.tuple [.agg [.os (.t 448), .os (.t 449)], B true], [(448, .arr true true (.slice (.int .i64)) hit), (449, .arr true false (.int .i64) ms)]))
    (g2 : callOf pr 11 [.agg [LL hit, L ms], L us] [] = some (.tuple [I m, B true], [])) :
    loopOf pr 3 1 ⟨VTs b k, VHs us cs st⟩ = loopOf pr 3 1 ⟨VTs b ((k + 1 : Nat) : Int), VHs us cs st⟩ := by
  have hw : IntKind.i64.wrap ((k : Int) + 1) = ((k + 1 : Nat) : Int) := by rw [wrap_i] <;> omega
  have e1 : ((k : Int) ≤ 6) = True := tr (by omega)
  have e2 : ((k : Int) < (cs.length : Int)) = True := tr (by omega)
  rw [loop_eq pr 3 1 _ Try.f3 fn_3 _ rfl _ ann_3 _ rfl]
  simp -implicitDefEqProofs only [e1, e2, hw, g1, g2, hc, zero_le_cast, Int.toNat_natCast, go_sem, Nat.reduceAdd, Nat.reduceSub, Nat.reduceMul, Nat.reduceMod, Nat.reduceLT, Nat.reduceLeDiff, Nat.reduceEqDiff, Nat.reduceBEq, Nat.reduceDiv, Int.reduceLT, Int.reduceLE, Int.reduceToNat, Int.reduceNeg, Int.reduceEq, ↓reduceIte, reduceCtorEq, ↓reduceDIte]
theorem w1s_e (b us cs st : List Int) : loopOf pr 3 1 ⟨VTs b 7, VHs us cs st⟩ = some (.exit 2, ⟨VTs b 7, VHs us cs st⟩) := by
  rw [loop_eq pr 3 1 _ Try.f3 fn_3 _ rfl _ ann_3 _ rfl]
  simp -implicitDefEqProofs only [show ((7 : Int) ≤ 6) = False from fa (by omega), go_sem, Nat.reduceAdd, Nat.reduceSub, Nat.reduceMul, Nat.reduceMod, Nat.reduceLT, Nat.reduceLeDiff, Nat.reduceEqDiff, Nat.reduceBEq, Nat.reduceDiv, Int.reduceLT, Int.reduceLE, Int.reduceToNat, Int.reduceNeg, Int.reduceEq, ↓reduceIte, reduceCtorEq, ↓reduceDIte]
theorem w1s_l (b us st : List Int) (hb : us.length ≤ 13) (hv : validU us = true) (hu : ∀ x ∈ us, 0 ≤ x) : ∀ (j k : Nat), k + j = 7 → 1 ≤ k → loopOf pr 3 1 ⟨VTs b k, VHs us (curveL (distL [] us) 21) st⟩ = some (.exit 2, ⟨VTs b 7, VHs us (curveL (distL [] us) 21) st⟩)
  | 0, k, h, h1 => by
    obtain rfl : k = 7 := by omega
    exact w1s_e b us _ st
  | j + 1, k, h, h1 => by
    rw [w1s_s b us (curveL (distL [] us) 21) st (mvF k (k - 1)) (lruH k) k (curveN (distL [] us) k) ⟨h1, by omega⟩ (curveL_length _ _) (fun z => curveL_getD _ (by omega) z) (pol k (by omega) (by omega)) (call_mo us hb hv hu k ⟨h1, by omega⟩)]
    exact w1s_l b us st hb hv hu j (k + 1) (by omega) (by omega)
theorem w2s (a b us cs st hs : List Int) (few : Nat) (hst : ¬ st.length = 0)
    (g0 : callOf pr 4 [BY a, BY b] [] = some (B false, []))
    (g1 : callOf pr 5 [BY a] [] = some (.os (.t 1024), [(1024, .arr true false (.int .i64) us)]))
    (g2 : callOf pr 6 [L us, I 20] [] = some (.tuple [.os (.t 1088), B true], [(1088, .arr true false (.int .i64) cs)]))
    (g3 : callOf pr 7 [L us] [] = some (.tuple [.os (.t 512), B true], [(512, .arr true false (.int .i64) st)]))
    (g4 : callOf pr 8 [L us] [] = some (.tuple [.os (.t 640), B true], [(640, .arr true false (.int .i64) hs)]))
    (g5 : callOf pr 9 [L hs] [] = some (I hs.sum, []))
    (hl : cs.length = 21) (c0 : ∀ z, cs.getD 0 z = (us.length : Int)) (c20 : ∀ z, cs.getD 20 z = (st.length : Int)) (hsum : IntKind.i64.wrap ((us.length : Int) - (st.length : Int)) = hs.sum)
    (h0 : loopOf pr 3 0 ⟨WTs b 1, WHs us cs st hs⟩ = some (.exit 0, ⟨WTs b 21, WHs us cs st hs⟩))
    (h1 : loopOf pr 3 1 ⟨VTs b 1, VHs us cs st⟩ = some (.exit 2, ⟨VTs b 7, VHs us cs st⟩))
    (g6 : callOf pr 12 [BY b, I 0, I 14] [] = some (I few, []))
    (g7 : ((few : Int) < (st.length : Int) ∧ callOf pr 13 [L us, I few] [] = some (.tuple [I 0, B false], [])) ∨
      ∃ (k : Nat) (p q : Int), ¬ (few : Int) < (st.length : Int) ∧ k ≤ 20 ∧ (∀ z, cs.getD k z = p) ∧ p ≤ few ∧ (k = 0 ∨ ((∀ z, cs.getD (k - 1) z = q) ∧ (few : Int) < q)) ∧ callOf pr 13 [L us, I few] [] = some (.tuple [I k, B true], [])) :
    callOf pr 3 [BY a, BY b] [] = some (B true, []) := by
  skip
  skip
  have c9 : (0 ≤ (few : Int)) = True := tr (by omega)
  have hl2 : ((cs.length : Int) = 21) := by omega
  have lx : (0 : Int) = 0 := rfl
  rcases g7 with ⟨hf, g7⟩ | ⟨k, p, q, hf, hk, hp, hpf, hq, g7⟩
  · have c3 : ((((st : List Int).length : Nat) : Int) ≤ (few : Int)) = False := fa (by omega)
    skip
    rw [call_eq pr 3 _ _ Try.f3 fn_3 _ rfl _ ann_3 rfl]
    simp -implicitDefEqProofs only [g0, g1, g2, g3, g4, g5, hl2, c0, c20, hsum, h0, h1, g6, g7, c3, ge_iff_le, lx, show (false == false) = true from rfl, go_sem, Nat.reduceAdd, Nat.reduceSub, Nat.reduceMul, Nat.reduceMod, Nat.reduceLT, Nat.reduceLeDiff, Nat.reduceEqDiff, Nat.reduceBEq, Nat.reduceDiv, Int.reduceLT, Int.reduceLE, Int.reduceToNat, Int.reduceNeg, Int.reduceEq, ↓reduceIte, reduceCtorEq, ↓reduceDIte]
  · have c3 : ((((st : List Int).length : Nat) : Int) ≤ (few : Int)) = True := tr (by omega)
    have c4 : ((k : Int) ≤ 20) = True := tr (by omega)
    have c5 : ((k : Int) < 21) = True := tr (by omega)
    have c6 : (0 ≤ (k : Int)) = True := tr (by omega)
    by_cases hk0 : k = 0
    · subst hk0
      have hpe : p = (us.length : Int) := by rw [← hp 0, c0 0]
      rw [hpe] at hpf
      have c10 : ((us.length : Int) ≤ (few : Int)) = True := tr hpf
      rw [call_eq pr 3 _ _ Try.f3 fn_3 _ rfl _ ann_3 rfl]
      simp -implicitDefEqProofs only [g0, g1, g2, g3, g4, g5, hl2, c0, c20, hsum, h0, h1, g6, g7, c3, c4, c5, c6, c10, ge_iff_le, gt_iff_lt, Int.toNat_natCast, Int.natCast_zero, lx, show (true == true) = true from rfl, show (false == false) = true from rfl, go_sem, Nat.reduceAdd, Nat.reduceSub, Nat.reduceMul, Nat.reduceMod, Nat.reduceLT, Nat.reduceLeDiff, Nat.reduceEqDiff, Nat.reduceBEq, Nat.reduceDiv, Int.reduceLT, Int.reduceLE, Int.reduceToNat, Int.reduceNeg, Int.reduceEq, ↓reduceIte, reduceCtorEq, ↓reduceDIte]
    · rcases hq with hq | ⟨hq, hqf⟩
      · exact absurd hq hk0
      · have c7 : ((k : Int) = 0) = False := fa (by omega)
        have hw : IntKind.i64.wrap ((k : Int) - 1) = ((k - 1 : Nat) : Int) := by rw [wrap_i] <;> omega
        have c8 : (((k - 1 : Nat) : Int) < 21) = True := tr (by omega)
        rw [call_eq pr 3 _ _ Try.f3 fn_3 _ rfl _ ann_3 rfl]
        simp -implicitDefEqProofs only [g0, g1, g2, g3, g4, g5, hl2, c0, c20, hsum, h0, h1, g6, g7, c3, c4, c5, c6, c7, c8, hw, hq, tr hqf, ge_iff_le, gt_iff_lt, tr hpf, hp, zero_le_cast, Int.toNat_natCast, lx, show (true == true) = true from rfl, show (false == false) = true from rfl, go_sem, Nat.reduceAdd, Nat.reduceSub, Nat.reduceMul, Nat.reduceMod, Nat.reduceLT, Nat.reduceLeDiff, Nat.reduceEqDiff, Nat.reduceBEq, Nat.reduceDiv, Int.reduceLT, Int.reduceLE, Int.reduceToNat, Int.reduceNeg, Int.reduceEq, ↓reduceIte, reduceCtorEq, ↓reduceDIte]
theorem law_sizes (a b : List Int) (wa : Ty.WF (.slice (.int .u8)) a) (wb : Ty.WF (.slice (.int .u8)) b) : callOf pr 3 [BY a, BY b] [] = some (B true, []) := by
  have g0 := call_lo a b
  by_cases h1 : 48 < (a.length : Int)
  · rw [decide_eq_true h1, Bool.true_or] at g0
    rw [call_eq pr 3 _ _ Try.f3 fn_3 _ rfl _ ann_3 rfl]
    simp -implicitDefEqProofs only [g0, go_sem, Nat.reduceAdd, Nat.reduceSub, Nat.reduceMul, Nat.reduceMod, Nat.reduceLT, Nat.reduceLeDiff, Nat.reduceEqDiff, Nat.reduceBEq, Nat.reduceDiv, Int.reduceLT, Int.reduceLE, Int.reduceToNat, Int.reduceNeg, Int.reduceEq, ↓reduceIte, reduceCtorEq, ↓reduceDIte]
  by_cases h2 : 48 < (b.length : Int)
  · rw [decide_eq_true h2, Bool.or_true] at g0
    rw [call_eq pr 3 _ _ Try.f3 fn_3 _ rfl _ ann_3 rfl]
    simp -implicitDefEqProofs only [g0, go_sem, Nat.reduceAdd, Nat.reduceSub, Nat.reduceMul, Nat.reduceMod, Nat.reduceLT, Nat.reduceLeDiff, Nat.reduceEqDiff, Nat.reduceBEq, Nat.reduceDiv, Int.reduceLT, Int.reduceLE, Int.reduceToNat, Int.reduceNeg, Int.reduceEq, ↓reduceIte, reduceCtorEq, ↓reduceDIte]
  rw [decide_eq_false h1, decide_eq_false h2, Bool.or_false] at g0
  obtain ⟨us, hul, hus, g1⟩ := call_us a (okBy_of4 wa h1)
  obtain ⟨few, hfew, g6⟩ := call_atr b (okBy_of4 wb h2)
  have hv : validU us = true := by
    simp only [validU, Bool.and_eq_true, List.all_eq_true, addrB, decide_eq_true_eq]
    exact ⟨fun x hx => by have := hus x hx; omega, by omega⟩
  have hu : ∀ x ∈ us, 0 ≤ x := fun x hx => (hus x hx).1
  have g2 := call_lc us hul hv
  have g4 := call_dc us hul hv
  have hdl := distL_length us []
  have hlt := distL_lt us []
  have hlt2 : ∀ d ∈ distL [] us, d < ((60 : Nat) : Int) := fun d hd => by have := hlt d hd; simp at this; omega
  have hhl := hist_length (distL [] us) [] 60 (by simp) hlt2
  have hhx : ∀ x ∈ histL [] (distL [] us), 0 ≤ x ∧ x ≤ 100 := by
    intro x hx
    obtain ⟨j, hj, rfl⟩ := List.getElem_of_mem hx
    have := hist_getD j (distL [] us) []
    rw [getD_of_lt hj] at this
    have hle := eqN_le (distL [] us) j
    simp only [List.getD_nil] at this
    omega
  have g5 := call_su (histL [] (distL [] us)) (by omega) hhx
  have hhs := hist_sum (distL [] us) [] 60 hlt2
  have hc60 := curve_all us (n := 60) (by omega)
  have hc20 := curve_all us (n := 20) (by omega)
  have hdist : dist us.reverse ≤ us.length := by
    have := curveN_le (distL [] us) 20
    omega
  have hl := curveL_length (distL [] us) 21
  have c0 : ∀ z, (curveL (distL [] us) 21).getD 0 z = (us.length : Int) := fun z => by rw [curveL_getD _ (by omega), curveN_zero, hdl]
  have l0 := w0n_l
  have hsz := call_sz us hul hv few (by omega)
  have hfind := size_find us (by omega) few
  have g7 : ∀ n : Nat, n = dist us.reverse → (((few : Int) < (n : Int) ∧ callOf pr 13 [L us, I few] [] = some (.tuple [I 0, B false], [])) ∨
      ∃ (k : Nat) (p q : Int), ¬ (few : Int) < (n : Int) ∧ k ≤ 20 ∧ (∀ z, (curveL (distL [] us) 21).getD k z = p) ∧ p ≤ few ∧ (k = 0 ∨ ((∀ z, (curveL (distL [] us) 21).getD (k - 1) z = q) ∧ (few : Int) < q)) ∧ callOf pr 13 [L us, I few] [] = some (.tuple [I k, B true], [])) := by
    intro n hn
    subst hn
    unfold sizeV at hsz
    cases hf : (curveL (distL [] us) 61).findIdx? (fun n => decide (n ≤ (few : Int))) with
    | none =>
      rw [hf] at hsz hfind
      simp only at hsz hfind
      exact .inl ⟨by omega, hsz⟩
    | some k =>
      rw [hf] at hsz hfind
      simp only at hsz hfind
      obtain ⟨q1, q2, q3, q4⟩ := hfind
      refine .inr ⟨k, curveN (distL [] us) k, curveN (distL [] us) (k - 1), by omega, q2, fun z => curveL_getD _ (by omega) z, by omega, ?_, hsz⟩
      rcases q4 with q4 | q4
      · exact .inl q4
      · exact .inr ⟨fun z => curveL_getD _ (by omega) z, by omega⟩
  have hsum : IntKind.i64.wrap ((us.length : Int) - ((dist us.reverse : Nat) : Int)) = (histL [] (distL [] us)).sum := by
    have e0 : ([] : List Int).sum = 0 := rfl
    rw [hhs, e0, hc60, hdl, wrap_i] <;> omega
  by_cases h0 : us.length = 0
  · have hn : us = [] := List.eq_nil_of_length_eq_zero h0
    have hd0 : dist us.reverse = 0 := by rw [hn]; rfl
    have g3 : callOf pr 7 [L us] [] = some (.tuple [.nilS, B true], []) := by
      have gv := call_vu us (by omega)
      rw [hv, hn] at gv
      rw [hn]
      exact call_ao0 gv
    exact w2n a b us _ [] _ few rfl h0 g0 g1 g2 g3 g4 g5 hl c0 (fun z => by rw [curveL_getD _ (by omega), hc20, hd0]; rfl) (by rw [← hsum, hd0]; rfl)
      (w0n_l b us (distL [] us) [] (by omega) 20 1 (by omega) (by omega)) (w1n_l b us [] hul hv hu 6 1 (by omega) (by omega)) g6 (g7 _ (by rw [hd0]; rfl))
  · have g3 := call_ao1 us hul hv h0
    have hcd : (comp (sortI us)).length = dist us.reverse := comp_dist (fun x => List.mem_reverse.symm)
    have hne : ¬ (comp (sortI us)).length = 0 := by
      rw [hcd]
      intro e
      have hmem : ∃ x, x ∈ us := by
        cases us with
        | nil => exact absurd rfl h0
        | cons x l => exact ⟨x, by simp⟩
      obtain ⟨x, hx⟩ := hmem
      have := (ded_mem x us.reverse).2 (by simpa using hx)
      have hp : 0 < (dedL us.reverse).length := List.length_pos_of_mem this
      unfold dist at e
      omega
    exact w2s a b us _ (comp (sortI us)) _ few hne g0 g1 g2 g3 g4 g5 hl c0 (fun z => by rw [curveL_getD _ (by omega), hc20, hcd]) (by rw [hcd]; exact hsum)
      (w0s_l b us (distL [] us) _ (by omega) 20 1 (by omega) (by omega)) (w1s_l b us _ hul hv hu 6 1 (by omega) (by omega)) g6 (g7 _ hcd)
end Go.Proofs.Ytjcldkfgpifebaa.PI
