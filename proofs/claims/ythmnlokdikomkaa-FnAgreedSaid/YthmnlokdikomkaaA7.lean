/- Drawn ops; the two protocols. -/
import Derived.Test.YthmnlokdikomkaaA4
import Derived.Test.YthmnlokdikomkaaX11
namespace Go.Proofs.Ythmnlokdikomkaa.PI
open Go Go.Q
set_option maxRecDepth 100000
set_option maxHeartbeats 4000000
set_option linter.unusedSimpArgs false
set_option linter.unusedVariables false
set_option maxHeartbeats 8000000
theorem call_from (bs : List Int) : callOf pr 43 [BY bs] [] = some (.op 320 0, [(320, .box [BY bs, I 0, .d (.int .u64) 0])]) := by
  rw [call_eq pr 43 _ _ Try.f43 fn_43 _ rfl _ ann_43 rfl]
  simp -implicitDefEqProofs only [go_sem, Nat.reduceAdd, Nat.reduceSub, Nat.reduceMul, Nat.reduceMod, Nat.reduceLT, Nat.reduceLeDiff, Nat.reduceEqDiff, Nat.reduceBEq, Nat.reduceDiv, Int.reduceLT, Int.reduceLE, Int.reduceToNat, Int.reduceNeg, Int.reduceEq, ↓reduceIte, reduceCtorEq, ↓reduceDIte]
abbrev R8H (bs : List Int) (at_ : Nat) (sd : Int) (ops : List Od) : Heap := [(640, .box [BY bs, I at_, .d (.int .u64) sd]), (704, .arr true false tyO ops)]
abbrev R8T (n j : Int) : Slots := [(1, I n), (5, .op 640 0), (6, .os (.t 704)), (7, I j)]
theorem r8_step (bs : List Int) (n : Int) (j : Nat) (hj : j < 100) (at_ : Nat) (sd : Int) (ops : List Od) (ho : ops.length < 5000) (k c : Int) (a1 a2 : Nat) (s1 s2 : Int)
    (hp1 : callOf pr 44 [.op 1000000 0, I 3] (SRC bs at_ sd) = some (I k, SRC bs a1 s1)) (hp2 : callOf pr 44 [.op 1000000 0, I n] (SRC bs a1 s1) = some (I c, SRC bs a2 s2)) :
    loopOf pr 14 0 ⟨R8T n ((j + 1 : Nat) : Int), R8H bs at_ sd ops⟩ = loopOf pr 14 0 ⟨R8T n j, R8H bs a2 s2 (ops ++ [(k, c, ())])⟩ := by
  have hr : ((ops.length + 1) * 16 ≤ 140737488355328 ∧ ops.length ≤ 9223372036854775806) = True := tr ⟨by omega, by omega⟩
  have h0 : (0 < ((j + 1 : Nat) : Int)) = True := tr (by omega)
  have hw : IntKind.i64.wrap (((j + 1 : Nat) : Int) - 1) = (j : Int) := by rw [wrap_i] <;> omega
  rw [loop_eq pr 14 0 _ Try.f14 fn_14 _ rfl _ ann_14 _ rfl]
  simp -implicitDefEqProofs only [h0, gt_iff_lt, hp1, hp2, hr, hw, go_sem, Nat.reduceAdd, Nat.reduceSub, Nat.reduceMul, Nat.reduceMod, Nat.reduceLT, Nat.reduceLeDiff, Nat.reduceEqDiff, Nat.reduceBEq, Nat.reduceDiv, Int.reduceLT, Int.reduceLE, Int.reduceToNat, Int.reduceNeg, Int.reduceEq, ↓reduceIte, reduceCtorEq, ↓reduceDIte]
theorem r8_end (bs : List Int) (n : Int) (at_ : Nat) (sd : Int) (ops : List Od) : loopOf pr 14 0 ⟨R8T n 0, R8H bs at_ sd ops⟩ = some (.exit 0, ⟨R8T n 0, R8H bs at_ sd ops⟩) := by
  rw [loop_eq pr 14 0 _ Try.f14 fn_14 _ rfl _ ann_14 _ rfl]
  simp -implicitDefEqProofs only [Int.lt_irrefl, gt_iff_lt, go_sem, Nat.reduceAdd, Nat.reduceSub, Nat.reduceMul, Nat.reduceMod, Nat.reduceLT, Nat.reduceLeDiff, Nat.reduceEqDiff, Nat.reduceBEq, Nat.reduceDiv, Int.reduceLT, Int.reduceLE, Int.reduceToNat, Int.reduceNeg, Int.reduceEq, ↓reduceIte, reduceCtorEq, ↓reduceDIte]
theorem loop_r8 (bs : List Int) (hb : okBy bs) (n : Nat) (hn : 1 ≤ n ∧ n ≤ 3) : ∀ (j at_ : Nat) (sd : Int) (ops : List Od), j < 100 → at_ + 2 * j ≤ 1000 → ops.length + j < 1000 → (∀ o ∈ ops, okO n o) →
    ∃ at' sd' ops', (∀ o ∈ ops', okO n o) ∧ List.length ops' ≤ ops.length + j ∧ loopOf pr 14 0 ⟨R8T n j, R8H bs at_ sd ops⟩ = some (.exit 0, ⟨R8T n 0, R8H bs at' sd' ops'⟩)
  | 0, at_, sd, ops, _, _, _, ho => ⟨at_, sd, ops, ho, by omega, r8_end bs n at_ sd ops⟩
  | j + 1, at_, sd, ops, hj, ha, hl, ho => by
    obtain ⟨k, a1, s1, hk, ha1, hp1⟩ := call_pick bs hb at_ (by omega) sd 3 (by omega)
    obtain ⟨c, a2, s2, hc, ha2, hp2⟩ := call_pick bs hb a1 (by omega) s1 n (by omega)
    obtain ⟨at', sd', ops', h1, h2, h3⟩ := loop_r8 bs hb n hn j a2 s2 (ops ++ [(k, c, ())]) (by omega) (by omega) (by rw [List.length_append, List.length_cons, List.length_nil]; omega) (fun o h => by
      rcases List.mem_append.1 h with h | h
      · exact ho o h
      · simp only [List.mem_singleton] at h
        subst h
        exact ⟨⟨hk.1, by show k ≤ 2; omega⟩, hc.1, hc.2⟩)
    rw [List.length_append, List.length_cons, List.length_nil] at h2
    exact ⟨at', sd', ops', h1, by omega, by rw [r8_step bs n j (by omega) at_ sd ops (by omega) k c a1 a2 s1 s2 hp1 hp2]; exact h3⟩
theorem call_r8o (bs : List Int) (hb : okBy bs) (n : Nat) (hn : 1 ≤ n ∧ n ≤ 3) : ∃ ops : List Od, (∀ o ∈ ops, okO n o) ∧ ops.length ≤ 11 ∧ callOf pr 14 [BY bs, I n] [] = some (.os (.t 704), [(704, .arr true false tyO ops)]) := by
  obtain ⟨v, a1, s1, hv, ha, hp⟩ := call_pick bs hb 0 (by omega) 0 12 (by omega)
  have hp : callOf pr 44 [.op 1000000 0, I 12] [(1000000, .box [BY bs, I 0, .d (.int .u64) 0])] = _ := hp
  obtain ⟨j, rfl⟩ : ∃ j : Nat, v = j := ⟨v.toNat, by omega⟩
  obtain ⟨at', sd', ops, h1, h2, h3⟩ := loop_r8 bs hb n hn j a1 s1 [] (by omega) (by omega) (by simp only [List.length_nil]; omega) (fun o h => by cases h)
  have hf := call_from bs
  refine ⟨ops, h1, by simp only [List.length_nil] at h2; omega, ?_⟩
  rw [call_eq pr 14 _ _ Try.f14 fn_14 _ rfl _ ann_14 rfl]
  simp -implicitDefEqProofs only [hf, hp, h3, go_sem, Nat.reduceAdd, Nat.reduceSub, Nat.reduceMul, Nat.reduceMod, Nat.reduceLT, Nat.reduceLeDiff, Nat.reduceEqDiff, Nat.reduceBEq, Nat.reduceDiv, Int.reduceLT, Int.reduceLE, Int.reduceToNat, Int.reduceNeg, Int.reduceEq, ↓reduceIte, reduceCtorEq, ↓reduceDIte]
abbrev RH (rs : List Ru) : Heap := [(512, .arr true false tyR rs)]
theorem rul_0 (a b c d : Int) (bk : AV) (hbk : bk = .nilS ∨ ∃ l : List Int, bk = cI l) (rs : List Ru) (hl : rs.length < 100) (q : Bool) (hc : callOf pr 89 [bk, I 0] [] = some (B q, [])) :
    loopOf pr 42 0 ⟨[(1, bk), (5, .os (.t 512)), (9, .agg [I a, I b, I c, I d]), (10, I 0)], RH rs⟩ = loopOf pr 42 0 ⟨[(1, bk), (5, .os (.t 512)), (9, .agg [I a, I b, I c, I d]), (10, I 1)], RH (rs ++ [(a, 1, q, ())])⟩ := by
  have hr : ((rs.length + 1) * 24 ≤ 140737488355328 ∧ rs.length ≤ 9223372036854775806) = True := tr ⟨by omega, by omega⟩
  have hw : IntKind.i64.wrap (0 + 1) = 1 := by decide
  have h4 : ((4 : Nat) : Int) = 4 := rfl
  rw [loop_eq pr 42 0 _ Try.f42 fn_42 _ rfl _ ann_42 _ rfl]
  rcases hbk with rfl | ⟨l, rfl⟩ <;> simp -implicitDefEqProofs only [hr, hw, hc, h4, go_sem, Nat.reduceAdd, Nat.reduceSub, Nat.reduceMul, Nat.reduceMod, Nat.reduceLT, Nat.reduceLeDiff, Nat.reduceEqDiff, Nat.reduceBEq, Nat.reduceDiv, Int.reduceLT, Int.reduceLE, Int.reduceToNat, Int.reduceNeg, Int.reduceEq, ↓reduceIte, reduceCtorEq, ↓reduceDIte]
theorem rul_1 (a b c d : Int) (bk : AV) (hbk : bk = .nilS ∨ ∃ l : List Int, bk = cI l) (rs : List Ru) (hl : rs.length < 100) (q : Bool) (hc : callOf pr 89 [bk, I 1] [] = some (B q, [])) :
    loopOf pr 42 0 ⟨[(1, bk), (5, .os (.t 512)), (9, .agg [I a, I b, I c, I d]), (10, I 1)], RH rs⟩ = loopOf pr 42 0 ⟨[(1, bk), (5, .os (.t 512)), (9, .agg [I a, I b, I c, I d]), (10, I 2)], RH (rs ++ [(b, 1, q, ())])⟩ := by
  have hr : ((rs.length + 1) * 24 ≤ 140737488355328 ∧ rs.length ≤ 9223372036854775806) = True := tr ⟨by omega, by omega⟩
  have hw : IntKind.i64.wrap (1 + 1) = 2 := by decide
  have h4 : ((4 : Nat) : Int) = 4 := rfl
  rw [loop_eq pr 42 0 _ Try.f42 fn_42 _ rfl _ ann_42 _ rfl]
  rcases hbk with rfl | ⟨l, rfl⟩ <;> simp -implicitDefEqProofs only [hr, hw, hc, h4, go_sem, Nat.reduceAdd, Nat.reduceSub, Nat.reduceMul, Nat.reduceMod, Nat.reduceLT, Nat.reduceLeDiff, Nat.reduceEqDiff, Nat.reduceBEq, Nat.reduceDiv, Int.reduceLT, Int.reduceLE, Int.reduceToNat, Int.reduceNeg, Int.reduceEq, ↓reduceIte, reduceCtorEq, ↓reduceDIte]
theorem rul_2 (a b c d : Int) (bk : AV) (hbk : bk = .nilS ∨ ∃ l : List Int, bk = cI l) (rs : List Ru) (hl : rs.length < 100) (q : Bool) (hc : callOf pr 89 [bk, I 2] [] = some (B q, [])) :
    loopOf pr 42 0 ⟨[(1, bk), (5, .os (.t 512)), (9, .agg [I a, I b, I c, I d]), (10, I 2)], RH rs⟩ = loopOf pr 42 0 ⟨[(1, bk), (5, .os (.t 512)), (9, .agg [I a, I b, I c, I d]), (10, I 3)], RH (rs ++ [(c, 1, q, ())])⟩ := by
  have hr : ((rs.length + 1) * 24 ≤ 140737488355328 ∧ rs.length ≤ 9223372036854775806) = True := tr ⟨by omega, by omega⟩
  have hw : IntKind.i64.wrap (2 + 1) = 3 := by decide
  have h4 : ((4 : Nat) : Int) = 4 := rfl
  rw [loop_eq pr 42 0 _ Try.f42 fn_42 _ rfl _ ann_42 _ rfl]
  rcases hbk with rfl | ⟨l, rfl⟩ <;> simp -implicitDefEqProofs only [hr, hw, hc, h4, go_sem, Nat.reduceAdd, Nat.reduceSub, Nat.reduceMul, Nat.reduceMod, Nat.reduceLT, Nat.reduceLeDiff, Nat.reduceEqDiff, Nat.reduceBEq, Nat.reduceDiv, Int.reduceLT, Int.reduceLE, Int.reduceToNat, Int.reduceNeg, Int.reduceEq, ↓reduceIte, reduceCtorEq, ↓reduceDIte]
theorem rul_3 (a b c d : Int) (bk : AV) (hbk : bk = .nilS ∨ ∃ l : List Int, bk = cI l) (rs : List Ru) (hl : rs.length < 100) (q : Bool) (hc : callOf pr 89 [bk, I 3] [] = some (B q, [])) :
    loopOf pr 42 0 ⟨[(1, bk), (5, .os (.t 512)), (9, .agg [I a, I b, I c, I d]), (10, I 3)], RH rs⟩ = loopOf pr 42 0 ⟨[(1, bk), (5, .os (.t 512)), (9, .agg [I a, I b, I c, I d]), (10, I 4)], RH (rs ++ [(d, 1, q, ())])⟩ := by
  have hr : ((rs.length + 1) * 24 ≤ 140737488355328 ∧ rs.length ≤ 9223372036854775806) = True := tr ⟨by omega, by omega⟩
  have hw : IntKind.i64.wrap (3 + 1) = 4 := by decide
  have h4 : ((4 : Nat) : Int) = 4 := rfl
  rw [loop_eq pr 42 0 _ Try.f42 fn_42 _ rfl _ ann_42 _ rfl]
  rcases hbk with rfl | ⟨l, rfl⟩ <;> simp -implicitDefEqProofs only [hr, hw, hc, h4, go_sem, Nat.reduceAdd, Nat.reduceSub, Nat.reduceMul, Nat.reduceMod, Nat.reduceLT, Nat.reduceLeDiff, Nat.reduceEqDiff, Nat.reduceBEq, Nat.reduceDiv, Int.reduceLT, Int.reduceLE, Int.reduceToNat, Int.reduceNeg, Int.reduceEq, ↓reduceIte, reduceCtorEq, ↓reduceDIte]
theorem rul_end (a b c d : Int) (bk : AV) (hbk : bk = .nilS ∨ ∃ l : List Int, bk = cI l) (rs : List Ru) :
    loopOf pr 42 0 ⟨[(1, bk), (5, .os (.t 512)), (9, .agg [I a, I b, I c, I d]), (10, I 4)], RH rs⟩ = some (.exit 0, ⟨[(1, bk), (5, .os (.t 512)), (9, .agg [I a, I b, I c, I d]), (10, I 4)], RH rs⟩) := by
  rw [loop_eq pr 42 0 _ Try.f42 fn_42 _ rfl _ ann_42 _ rfl]
  rcases hbk with rfl | ⟨l, rfl⟩ <;> simp -implicitDefEqProofs only [Int.lt_irrefl, show ((4 : Nat) : Int) = 4 from rfl, go_sem, Nat.reduceAdd, Nat.reduceSub, Nat.reduceMul, Nat.reduceMod, Nat.reduceLT, Nat.reduceLeDiff, Nat.reduceEqDiff, Nat.reduceBEq, Nat.reduceDiv, Int.reduceLT, Int.reduceLE, Int.reduceToNat, Int.reduceNeg, Int.reduceEq, ↓reduceIte, reduceCtorEq, ↓reduceDIte]
theorem call_rul (a b c d : Int) (bk : AV) (hbk : bk = .nilS ∨ ∃ l : List Int, bk = cI l) (q0 q1 q2 q3 : Bool)
    (h0 : callOf pr 89 [bk, I 0] [] = some (B q0, [])) (h1 : callOf pr 89 [bk, I 1] [] = some (B q1, [])) (h2 : callOf pr 89 [bk, I 2] [] = some (B q2, [])) (h3 : callOf pr 89 [bk, I 3] [] = some (B q3, [])) :
    callOf pr 42 [.agg [I a, I b, I c, I d], bk] [] = some (.os (.t 512), RH [(a, 1, q0, ()), (b, 1, q1, ()), (c, 1, q2, ()), (d, 1, q3, ())]) := by
  have e0 := rul_0 a b c d bk hbk [] (by decide) q0 h0
  have e1 := rul_1 a b c d bk hbk ([] ++ [(a, 1, q0, ())]) (by simp) q1 h1
  have e2 := rul_2 a b c d bk hbk ([] ++ [(a, 1, q0, ())] ++ [(b, 1, q1, ())]) (by simp) q2 h2
  have e3 := rul_3 a b c d bk hbk ([] ++ [(a, 1, q0, ())] ++ [(b, 1, q1, ())] ++ [(c, 1, q2, ())]) (by simp) q3 h3
  rw [e1, e2, e3, rul_end a b c d bk hbk] at e0
  simp only [List.nil_append, List.cons_append] at e0
  rw [call_eq pr 42 _ _ Try.f42 fn_42 _ rfl _ ann_42 rfl]
  rcases hbk with rfl | ⟨l, rfl⟩ <;> simp -implicitDefEqProofs only [e0, go_sem, Nat.reduceAdd, Nat.reduceSub, Nat.reduceMul, Nat.reduceMod, Nat.reduceLT, Nat.reduceLeDiff, Nat.reduceEqDiff, Nat.reduceBEq, Nat.reduceDiv, Int.reduceLT, Int.reduceLE, Int.reduceToNat, Int.reduceNeg, Int.reduceEq, ↓reduceIte, reduceCtorEq, ↓reduceDIte]
theorem rul_nil (a b c d : Int) : callOf pr 42 [.agg [I a, I b, I c, I d], .nilS] [] = some (.os (.t 512), RH [(a, 1, false, ()), (b, 1, false, ()), (c, 1, false, ()), (d, 1, false, ())]) :=
  call_rul a b c d .nilS (.inl rfl) _ _ _ _ (call_con0 0) (call_con0 1) (call_con0 2) (call_con0 3)
theorem rul_of (a b c d : Int) (l : List Int) (hl : l.length < 100) : callOf pr 42 [.agg [I a, I b, I c, I d], cI l] [] = some (.os (.t 512), RH [(a, 1, l.any (fun x => decide (0 = x)), ()), (b, 1, l.any (fun x => decide (1 = x)), ()), (c, 1, l.any (fun x => decide (2 = x)), ()), (d, 1, l.any (fun x => decide (3 = x)), ())]) :=
  call_rul a b c d (cI l) (.inr ⟨l, rfl⟩) _ _ _ _ (call_con 0 l (by omega)) (call_con 1 l (by omega)) (call_con 2 l (by omega)) (call_con 3 l (by omega))
theorem call_msi (b : Bool) : callOf pr 12 [B b] [] = some (.agg [.os (.t 448), .os (.t 576), .os (.t 768), .os (.t 960), .os (.t 1152)], [(448, .arr true false tyR (msA b)), (576, .arr true false tyR msB), (768, .arr true false tyR msV), (960, .arr true false tyR msD), (1152, .arr true false tyR msE)]) := by
  have e0 := rul_nil 1 1 2 3
  have e1 := rul_nil 2 1 2 3
  have e2 := rul_nil 3 3 3 3
  have e3 := rul_of 0 0 0 0 [3] (by decide)
  have e4 := rul_of 0 1 1 1 [3] (by decide)
  rw [call_eq pr 12 _ _ Try.f12 fn_12 _ rfl _ ann_12 rfl]
  cases b <;> simp -implicitDefEqProofs only [e0, e1, e2, e3, e4, go_sem, Nat.reduceAdd, Nat.reduceSub, Nat.reduceMul, Nat.reduceMod, Nat.reduceLT, Nat.reduceLeDiff, Nat.reduceEqDiff, Nat.reduceBEq, Nat.reduceDiv, Int.reduceLT, Int.reduceLE, Int.reduceToNat, Int.reduceNeg, Int.reduceEq, ↓reduceIte, reduceCtorEq, ↓reduceDIte] <;> rfl
theorem call_thr (b : Bool) : callOf pr 13 [B b] [] = some (.agg [.os (.t 384), .os (.t 640), .os (.t 768), .os (.t 896), .os (.t 1024)], [(384, .arr true false tyR thA), (640, .arr true false tyR (thB b)), (768, .arr true false tyR thV), (896, .arr true false tyR thD), (1024, .arr true false tyR thE)]) := by
  have e1 := rul_nil 1 1 1 1
  have e2 := rul_of 1 1 1 1 [0, 1, 2, 3] (by decide)
  have e5 := rul_of 0 1 1 1 [0, 1, 2, 3] (by decide)
  have e3 := rul_nil 0 0 0 0
  have e4 := rul_nil 0 1 1 1
  rw [call_eq pr 13 _ _ Try.f13 fn_13 _ rfl _ ann_13 rfl]
  cases b <;> simp -implicitDefEqProofs only [e1, e2, e3, e4, e5, go_sem, Nat.reduceAdd, Nat.reduceSub, Nat.reduceMul, Nat.reduceMod, Nat.reduceLT, Nat.reduceLeDiff, Nat.reduceEqDiff, Nat.reduceBEq, Nat.reduceDiv, Int.reduceLT, Int.reduceLE, Int.reduceToNat, Int.reduceNeg, Int.reduceEq, ↓reduceIte, reduceCtorEq, ↓reduceDIte] <;> rfl
theorem call_long (a b : List Int) : callOf pr 10 [BY a, BY b] [] = some (B (decide (48 < (a.length : Int)) || decide (48 < (b.length : Int))), []) := by
  rw [call_eq pr 10 _ _ Try.f10 fn_10 _ rfl _ ann_10 rfl]
  by_cases h : 48 < (a.length : Int)
  · rw [decide_eq_true h, Bool.true_or]
    simp -implicitDefEqProofs only [gt_iff_lt, tr h, go_sem, Nat.reduceAdd, Nat.reduceSub, Nat.reduceMul, Nat.reduceMod, Nat.reduceLT, Nat.reduceLeDiff, Nat.reduceEqDiff, Nat.reduceBEq, Nat.reduceDiv, Int.reduceLT, Int.reduceLE, Int.reduceToNat, Int.reduceNeg, Int.reduceEq, ↓reduceIte, reduceCtorEq, ↓reduceDIte]
  · rw [decide_eq_false h, Bool.false_or]
    simp -implicitDefEqProofs only [gt_iff_lt, fa h, go_sem, Nat.reduceAdd, Nat.reduceSub, Nat.reduceMul, Nat.reduceMod, Nat.reduceLT, Nat.reduceLeDiff, Nat.reduceEqDiff, Nat.reduceBEq, Nat.reduceDiv, Int.reduceLT, Int.reduceLE, Int.reduceToNat, Int.reduceNeg, Int.reduceEq, ↓reduceIte, reduceCtorEq, ↓reduceDIte]
theorem call_at (bs : List Int) (hb : okBy bs) (i : Int) (hi : 0 ≤ i) (m : Int) (hm : 1 ≤ m ∧ m ≤ 1000) : ∃ v : Int, (0 ≤ v ∧ v < m) ∧ callOf pr 11 [BY bs, I i, I m] [] = some (I v, []) := by
  rw [call_eq pr 11 _ _ Try.f11 fn_11 _ rfl _ ann_11 rfl]
  by_cases h1 : m ≤ 1
  · refine ⟨0, by omega, ?_⟩
    simp -implicitDefEqProofs only [tr h1, go_sem, Nat.reduceAdd, Nat.reduceSub, Nat.reduceMul, Nat.reduceMod, Nat.reduceLT, Nat.reduceLeDiff, Nat.reduceEqDiff, Nat.reduceBEq, Nat.reduceDiv, Int.reduceLT, Int.reduceLE, Int.reduceToNat, Int.reduceNeg, Int.reduceEq, ↓reduceIte, reduceCtorEq, ↓reduceDIte]
  · by_cases h2 : (bs.length : Int) ≤ i
    · refine ⟨0, by omega, ?_⟩
      simp -implicitDefEqProofs only [fa h1, tr h2, ge_iff_le, go_sem, Nat.reduceAdd, Nat.reduceSub, Nat.reduceMul, Nat.reduceMod, Nat.reduceLT, Nat.reduceLeDiff, Nat.reduceEqDiff, Nat.reduceBEq, Nat.reduceDiv, Int.reduceLT, Int.reduceLE, Int.reduceToNat, Int.reduceNeg, Int.reduceEq, ↓reduceIte, reduceCtorEq, ↓reduceDIte]
    · have hlt : i.toNat < bs.length := by omega
      have hr := hb.2 _ (List.getElem_mem hlt)
      have hg : bs.getD i.toNat 0 = bs[i.toNat] := getD_of_lt hlt 0
      generalize bs[i.toNat] = x at *
      have h0 : ¬ m = 0 := by omega
      have hw2 : IntKind.i64.wrap x = x := by rw [wrap_i] <;> omega
      have ht : x.tmod m = x % m := Int.tmod_eq_emod_of_nonneg (by omega)
      have r1 := Int.emod_nonneg x h0
      have r2 := Int.emod_lt_of_pos x (show 0 < m by omega)
      have h3 : (i < (bs.length : Int)) = True := tr (by omega)
      refine ⟨x % m, ⟨r1, r2⟩, ?_⟩
      have hw3 : IntKind.i64.wrap (x % m) = x % m := by rw [wrap_i] <;> omega
      simp -implicitDefEqProofs only [fa h1, fa h2, ge_iff_le, tr hi, h3, fa h0, hg, hw2, ht, hw3, go_sem, Nat.reduceAdd, Nat.reduceSub, Nat.reduceMul, Nat.reduceMod, Nat.reduceLT, Nat.reduceLeDiff, Nat.reduceEqDiff, Nat.reduceBEq, Nat.reduceDiv, Int.reduceLT, Int.reduceLE, Int.reduceToNat, Int.reduceNeg, Int.reduceEq, ↓reduceIte, reduceCtorEq, ↓reduceDIte]
abbrev RS0 (len k : Int) (ops : List Od) : Slots := [(3, .op 192 0), (6, .op 384 0), (9, .op 576 0), (28, LO ops), (29, I len), (30, I k)]
abbrev RSH (pa pb pv pd pe : List Ru) (cs : List Int) (fs : List Bool) (m : Bool) : Heap := [(192, .box [LR pa, LR pb, LR pv, LR pd, LR pe]), (384, .box [.nilS, .nilS, B false]), (1728, .arr true false (.int .i64) cs), (1729, .arr true false .bool fs), (576, .box [.os (.t 1728), .os (.t 1729), B m])]
abbrev RSF (pa pb pv pd pe : List Ru) (cs : List Int) (fs : List Bool) (m : Bool) (k c : Int) : Heap := [(192, .box [LR pa, LR pb, LR pv, LR pd, LR pe]), (384, .box [.os (.t 1728), .os (.t 1729), B m]), (1728, .arr true false (.int .i64) cs), (1729, .arr true false .bool fs), (576, .box [.os (.t 1728), .os (.t 1729), B m]), (704, .box [I k, I c])]
theorem rs_step (pa pb pv pd pe : List Ru) (ops : List Od) (j : Nat) (hj : j < ops.length) (hl : ops.length ≤ 40) (k c : Int) (hg : ∀ z, ops.getD j z = (k, c, ())) (cs cs' : List Int) (fs fs' : List Bool) (m m' se : Bool) (bk : Int) (hst : callOf pr 52 [.op 1000000 0, pA pa pb pv pd pe, .agg [I k, I c]] (HX cs fs m) = some (AV.tuple [B false, B se, I bk], HX cs' fs' m')) : loopOf pr 17 0 ⟨RS0 ops.length j ops, RSH pa pb pv pd pe cs fs m⟩ = loopOf pr 17 0 ⟨RS0 ops.length ((j + 1 : Nat) : Int) ops, RSH pa pb pv pd pe cs' fs' m'⟩ := by
  have hw : IntKind.i64.wrap ((j : Int) + 1) = ((j + 1 : Nat) : Int) := by rw [wrap_i] <;> omega
  rw [loop_eq pr 17 0 _ Try.f17 fn_17 _ rfl _ ann_17 _ rfl]
  simp -implicitDefEqProofs only [lt_cast hj, zero_le_cast, Int.toNat_natCast, hg, hw, hst, go_sem, Nat.reduceAdd, Nat.reduceSub, Nat.reduceMul, Nat.reduceMod, Nat.reduceLT, Nat.reduceLeDiff, Nat.reduceEqDiff, Nat.reduceBEq, Nat.reduceDiv, Int.reduceLT, Int.reduceLE, Int.reduceToNat, Int.reduceNeg, Int.reduceEq, ↓reduceIte, reduceCtorEq, ↓reduceDIte] <;> rfl
theorem rs_flaw (pa pb pv pd pe : List Ru) (ops : List Od) (j : Nat) (hj : j < ops.length) (hl : ops.length ≤ 40) (k c : Int) (hg : ∀ z, ops.getD j z = (k, c, ())) (cs cs' : List Int) (fs fs' : List Bool) (m m' se : Bool) (bk : Int) (hst : callOf pr 52 [.op 1000000 0, pA pa pb pv pd pe, .agg [I k, I c]] (HX cs fs m) = some (AV.tuple [B true, B se, I bk], HX cs' fs' m')) : loopOf pr 17 0 ⟨RS0 ops.length j ops, RSH pa pb pv pd pe cs fs m⟩ = some (.ret, ⟨[(6, .op 384 0), (7, I j), (8, B true)], RSF pa pb pv pd pe cs' fs' m' k c⟩) := by
  have hw : IntKind.i64.wrap ((j : Int) + 1) = ((j + 1 : Nat) : Int) := by rw [wrap_i] <;> omega
  rw [loop_eq pr 17 0 _ Try.f17 fn_17 _ rfl _ ann_17 _ rfl]
  simp -implicitDefEqProofs only [lt_cast hj, zero_le_cast, Int.toNat_natCast, hg, hw, hst, go_sem, Nat.reduceAdd, Nat.reduceSub, Nat.reduceMul, Nat.reduceMod, Nat.reduceLT, Nat.reduceLeDiff, Nat.reduceEqDiff, Nat.reduceBEq, Nat.reduceDiv, Int.reduceLT, Int.reduceLE, Int.reduceToNat, Int.reduceNeg, Int.reduceEq, ↓reduceIte, reduceCtorEq, ↓reduceDIte] <;> rfl
theorem rs_end (pa pb pv pd pe : List Ru) (ops : List Od) (cs : List Int) (fs : List Bool) (m : Bool) : loopOf pr 17 0 ⟨RS0 ops.length ops.length ops, RSH pa pb pv pd pe cs fs m⟩ = some (.exit 0, ⟨RS0 ops.length ops.length ops, RSH pa pb pv pd pe cs fs m⟩) := by
  rw [loop_eq pr 17 0 _ Try.f17 fn_17 _ rfl _ ann_17 _ rfl]
  simp -implicitDefEqProofs only [Int.lt_irrefl, go_sem, Nat.reduceAdd, Nat.reduceSub, Nat.reduceMul, Nat.reduceMod, Nat.reduceLT, Nat.reduceLeDiff, Nat.reduceEqDiff, Nat.reduceBEq, Nat.reduceDiv, Int.reduceLT, Int.reduceLE, Int.reduceToNat, Int.reduceNeg, Int.reduceEq, ↓reduceIte, reduceCtorEq, ↓reduceDIte]
section
variable (pa pb pv pd pe : List Ru) (hP : protB pa pb pv pd pe = true) (n : Nat) (hn : 1 ≤ n ∧ n ≤ 3)
include hP hn
theorem loop_run (ops : List Od) (hl : ops.length ≤ 40) : ∀ (os pre : List Od) (s : Sd), ops = pre ++ os → okS n s → (∀ o ∈ os, okO n o) →
    ((runL (nextF pa pb pv pd pe) s pre.length os).2 = -1 ∧ loopOf pr 17 0 ⟨RS0 ops.length pre.length ops, RSH pa pb pv pd pe s.1 s.2.1 s.2.2.1⟩ = some (.exit 0, ⟨RS0 ops.length ops.length ops, RSH pa pb pv pd pe (runL (nextF pa pb pv pd pe) s pre.length os).1.1 (runL (nextF pa pb pv pd pe) s pre.length os).1.2.1 (runL (nextF pa pb pv pd pe) s pre.length os).1.2.2.1⟩)) ∨
    (0 ≤ (runL (nextF pa pb pv pd pe) s pre.length os).2 ∧ ∃ k c, loopOf pr 17 0 ⟨RS0 ops.length pre.length ops, RSH pa pb pv pd pe s.1 s.2.1 s.2.2.1⟩ = some (.ret, ⟨[(6, .op 384 0), (7, I (runL (nextF pa pb pv pd pe) s pre.length os).2), (8, B true)], RSF pa pb pv pd pe (runL (nextF pa pb pv pd pe) s pre.length os).1.1 (runL (nextF pa pb pv pd pe) s pre.length os).1.2.1 (runL (nextF pa pb pv pd pe) s pre.length os).1.2.2.1 k c⟩))
  | [], pre, s, h, hs, ho => by
    have hlen : pre.length = ops.length := by rw [h]; simp
    refine .inl ⟨rfl, ?_⟩
    rw [hlen]
    exact rs_end pa pb pv pd pe ops s.1 s.2.1 s.2.2.1
  | (k, c, ()) :: os, pre, s, h, hs, ho => by
    have hj : pre.length < ops.length := by rw [h]; simp
    have hg : ∀ z, ops.getD pre.length z = (k, c, ()) := by intro z; rw [h]; simp
    obtain ⟨hk, c0, c1⟩ := ho (k, c, ()) (by simp)
    simp only at hk c0 c1
    obtain ⟨ci, rfl⟩ : ∃ ci : Nat, c = ci := ⟨c.toNat, by omega⟩
    obtain ⟨se, bk, hst⟩ := step_at pa pb pv pd pe hP n hn hs hk (c := ci) (by omega)
    have hs2 := nx_ok pa pb pv pd pe hP n hn s k ci hs hk.1 hk.2 (by omega)
    cases hfl : ((nextF pa pb pv pd pe) s k ci).2 with
    | true =>
      rw [hfl] at hst
      have hr : runL (nextF pa pb pv pd pe) s pre.length ((k, (ci : Int), ()) :: os) = (((nextF pa pb pv pd pe) s k ci).1, (pre.length : Int)) := by
        rw [runL]
        simp only [Int.toNat_natCast, hfl, if_true]
      rw [hr]
      exact .inr ⟨by simp, k, ci, rs_flaw pa pb pv pd pe ops pre.length hj hl k ci hg _ _ _ _ _ _ se bk hst⟩
    | false =>
      rw [hfl] at hst
      have hr : runL (nextF pa pb pv pd pe) s pre.length ((k, (ci : Int), ()) :: os) = runL (nextF pa pb pv pd pe) ((nextF pa pb pv pd pe) s k ci).1 (pre.length + 1) os := by
        rw [runL]
        simp only [Int.toNat_natCast, hfl, Bool.false_eq_true, if_false]
      rw [hr, rs_step pa pb pv pd pe ops pre.length hj hl k ci hg _ _ _ _ _ _ se bk hst]
      have ih := loop_run ops hl os (pre ++ [(k, (ci : Int), ())]) ((nextF pa pb pv pd pe) s k ci).1 (by rw [h]; simp) hs2 (fun o h => ho o (by simp [h]))
      rw [show (pre ++ [(k, (ci : Int), ())]).length = pre.length + 1 from by simp] at ih
      exact ih
theorem call_run (ops : List Od) (hl : ops.length ≤ 40) (ho : ∀ o ∈ ops, okO n o) : callOf pr 17 [pA pa pb pv pd pe, I n, LO ops] [] = some (.tuple [.agg [.os (.t 1728), .os (.t 1729), B (runL (nextF pa pb pv pd pe) (first n) 0 ops).1.2.2.1], I (runL (nextF pa pb pv pd pe) (first n) 0 ops).2, B true], [(1728, .arr true false (.int .i64) (runL (nextF pa pb pv pd pe) (first n) 0 ops).1.1), (1729, .arr true false .bool (runL (nextF pa pb pv pd pe) (first n) 0 ops).1.2.1)]) := by
  have c1 := call_ic pa pb pv pd pe n
  rw [show icB pa pb pv pd pe n = true from by simp only [icB, hP, Bool.true_and, decide_eq_true_eq]; omega] at c1
  have c2 := call_aos n (by omega) ops (fun o h => by
    obtain ⟨k, c0, c1⟩ := ho o h
    simp only [opB, Bool.and_eq_true, decide_eq_true_eq]
    exact ⟨k, c0, by omega⟩) hl
  have hf := call_fs n hn
  have hs0 : okS n (first n) := (start_inv (n := n) hn.1).ok (first n, -1, (0, 0, ()), ()) (by simp [start])
  have h := loop_run pa pb pv pd pe hP n hn ops hl ops [] (first n) rfl hs0 ho
  simp only [List.length_nil] at h
  rw [call_eq pr 17 _ _ Try.f17 fn_17 _ rfl _ ann_17 rfl]
  generalize runL (nextF pa pb pv pd pe) (first n) 0 ops = r at *
  obtain ⟨s, w⟩ := r
  rcases h with ⟨h1, h2⟩ | ⟨h1, k, c, h2⟩
  · have h2 : loopOf pr 17 0 ⟨RS0 ops.length 0 ops, RSH pa pb pv pd pe (List.replicate n 0) (List.replicate n false) true⟩ = _ := h2
    simp only at h1
    subst h1
    simp only [RS0, RSH] at h2
    simp -implicitDefEqProofs only [c1, c2, hf, h2, go_sem, Nat.reduceAdd, Nat.reduceSub, Nat.reduceMul, Nat.reduceMod, Nat.reduceLT, Nat.reduceLeDiff, Nat.reduceEqDiff, Nat.reduceBEq, Nat.reduceDiv, Int.reduceLT, Int.reduceLE, Int.reduceToNat, Int.reduceNeg, Int.reduceEq, ↓reduceIte, reduceCtorEq, ↓reduceDIte] <;> rfl
  · have h2 : loopOf pr 17 0 ⟨RS0 ops.length 0 ops, RSH pa pb pv pd pe (List.replicate n 0) (List.replicate n false) true⟩ = _ := h2
    simp only [RS0, RSH, RSF] at h2
    simp -implicitDefEqProofs only [c1, c2, hf, h2, go_sem, Nat.reduceAdd, Nat.reduceSub, Nat.reduceMul, Nat.reduceMod, Nat.reduceLT, Nat.reduceLeDiff, Nat.reduceEqDiff, Nat.reduceBEq, Nat.reduceDiv, Int.reduceLT, Int.reduceLE, Int.reduceToNat, Int.reduceNeg, Int.reduceEq, ↓reduceIte, reduceCtorEq, ↓reduceDIte] <;> rfl
end
theorem okBy_of {a : List Int} (hw : Ty.WF (.slice (.int .u8)) a) (hl : ¬ 48 < (a.length : Int)) : okBy a := by
  refine ⟨by omega, fun x hx => ?_⟩
  have h1 := hw.2 x hx
  have h2 : IntKind.u8.min ≤ x ∧ x ≤ IntKind.u8.max := h1
  have h3 : IntKind.u8.min = 0 ∧ IntKind.u8.max = 255 := by decide
  omega
theorem law_agreed (a b : List Int) (ha : Ty.WF (.slice (.int .u8)) a) (hb : Ty.WF (.slice (.int .u8)) b) : callOf pr 3 [BY a, BY b] [] = some (B true, []) := by
  have g0 := call_long a b
  rw [call_eq pr 3 _ _ Try.f3 fn_3 _ rfl _ ann_3 rfl]
  by_cases h1 : 48 < (a.length : Int)
  · rw [decide_eq_true h1, Bool.true_or] at g0
    simp -implicitDefEqProofs only [g0, go_sem, Nat.reduceAdd, Nat.reduceSub, Nat.reduceMul, Nat.reduceMod, Nat.reduceLT, Nat.reduceLeDiff, Nat.reduceEqDiff, Nat.reduceBEq, Nat.reduceDiv, Int.reduceLT, Int.reduceLE, Int.reduceToNat, Int.reduceNeg, Int.reduceEq, ↓reduceIte, reduceCtorEq, ↓reduceDIte]
  by_cases h2 : 48 < (b.length : Int)
  · rw [decide_eq_true h2, Bool.or_true] at g0
    simp -implicitDefEqProofs only [g0, go_sem, Nat.reduceAdd, Nat.reduceSub, Nat.reduceMul, Nat.reduceMod, Nat.reduceLT, Nat.reduceLeDiff, Nat.reduceEqDiff, Nat.reduceBEq, Nat.reduceDiv, Int.reduceLT, Int.reduceLE, Int.reduceToNat, Int.reduceNeg, Int.reduceEq, ↓reduceIte, reduceCtorEq, ↓reduceDIte]
  rw [decide_eq_false h1, decide_eq_false h2, Bool.or_false] at g0
  have oa := okBy_of ha h1
  have ob := okBy_of hb h2
  obtain ⟨v, hv, g1⟩ := call_at b ob 0 (by omega) 3 (by omega)
  obtain ⟨u, hu, g2⟩ := call_at b ob 1 (by omega) 2 (by omega)
  obtain ⟨n, hvn⟩ : ∃ n : Nat, 1 + v = n := ⟨(1 + v).toNat, by omega⟩
  have hn : 1 ≤ n ∧ n ≤ 3 := by omega
  have hw : IntKind.i64.wrap (1 + v) = (n : Int) := by rw [hvn, wrap_i] <;> omega
  obtain ⟨ops, ho, hol, g3⟩ := call_r8o a oa n hn
  have hq : ∃ q : Bool, decide (u = 1) = q := ⟨_, rfl⟩
  obtain ⟨q, hq⟩ := hq
  have m1 := call_msi q
  have m2 := call_thr q
  have im : icB (msA q) msB msV msD msE n = true := by simp only [icB, prot_m, Bool.true_and, decide_eq_true_eq]; omega
  have it : icB thA (thB q) thV thD thE n = true := by simp only [icB, prot_t, Bool.true_and, decide_eq_true_eq]; omega
  obtain ⟨fm1, fm2, fm3, fm4⟩ := good_facts (good_m q n hn)
  obtain ⟨ft1, ft2, ft3, ft4⟩ := good_facts (good_t q n hn)
  have s1 := call_sfi (msA q) msB msV msD msE n
  have s2 := call_sfi thA (thB q) thV thD thE n
  have s3 := call_oai (msA q) msB msV msD msE n
  have s4 := call_rsi (msA q) msB msV msD msE n
  have r1 := call_run (msA q) msB msV msD msE (prot_m q) n hn ops (by omega) ho
  have r2 := call_run thA (thB q) thV thD thE (prot_t q) n hn ops (by omega) ho
  obtain ⟨e1, e2⟩ := fm4 ops ho
  obtain ⟨e3, e4⟩ := ft4 ops ho
  unfold nxM at fm1 fm2 fm3 e1 e2
  unfold nxT at ft1 ft2 ft3 e3 e4
  rw [im, if_pos rfl, Int.toNat_natCast, fm1] at s1
  rw [it, if_pos rfl, Int.toNat_natCast, ft1] at s2
  rw [im, if_pos rfl, Int.toNat_natCast, fm2] at s3
  rw [im, if_pos rfl, Int.toNat_natCast] at s4
  simp only at s1 s2
  have v1 := call_vs (runL (nextF (msA q) msB msV msD msE) (first n) 0 ops).1.1 (runL (nextF (msA q) msB msV msD msE) (first n) 0 ops).1.2.1 (runL (nextF (msA q) msB msV msD msE) (first n) 0 ops).1.2.2.1
  have v2 := call_vs (runL (nextF thA (thB q) thV thD thE) (first n) 0 ops).1.1 (runL (nextF thA (thB q) thV thD thE) (first n) 0 ops).1.2.1 (runL (nextF thA (thB q) thV thD thE) (first n) 0 ops).1.2.2.1
  rw [e2] at v1
  rw [e4] at v2
  rw [e1] at r1
  rw [e3] at r2
  have p1 := call_vp (msA q) msB msV msD msE
  have p2 := call_vp thA (thB q) thV thD thE
  rw [prot_m] at p1
  rw [prot_t] at p2
  generalize (runL (nextF (msA q) msB msV msD msE) (first n) 0 ops).1 = x at *
  generalize (runL (nextF thA (thB q) thV thD thE) (first n) 0 ops).1 = y at *
  generalize hN : (found (nextF (msA q) msB msV msD msE) n).1.length = N at *
  have hN1 : (1 ≤ (N : Int)) = True := tr (by omega)
  obtain ⟨xc, xf, xm, ⟨⟩⟩ := x
  obtain ⟨yc, yf, ym, ⟨⟩⟩ := y
  simp only at r1 r2 v1 v2
  by_cases hu1 : u = 1
  · rw [decide_eq_true hu1] at hq
    subst hq
    simp -implicitDefEqProofs only [g0, g1, g2, hw, g3, tr hu1, m1, m2, s1, s2, s3, s4, r1, r2, v1, v2, p1, p2, hN1, ge_iff_le, go_sem, Nat.reduceAdd, Nat.reduceSub, Nat.reduceMul, Nat.reduceMod, Nat.reduceLT, Nat.reduceLeDiff, Nat.reduceEqDiff, Nat.reduceBEq, Nat.reduceDiv, Int.reduceLT, Int.reduceLE, Int.reduceToNat, Int.reduceNeg, Int.reduceEq, ↓reduceIte, reduceCtorEq, ↓reduceDIte]
  · rw [decide_eq_false hu1] at hq
    subst hq
    simp -implicitDefEqProofs only [g0, g1, g2, hw, g3, fa hu1, m1, m2, s1, s2, s3, s4, r1, r2, v1, v2, p1, p2, hN1, ge_iff_le, go_sem, Nat.reduceAdd, Nat.reduceSub, Nat.reduceMul, Nat.reduceMod, Nat.reduceLT, Nat.reduceLeDiff, Nat.reduceEqDiff, Nat.reduceBEq, Nat.reduceDiv, Int.reduceLT, Int.reduceLE, Int.reduceToNat, Int.reduceNeg, Int.reduceEq, ↓reduceIte, reduceCtorEq, ↓reduceDIte]
end Go.Proofs.Ythmnlokdikomkaa.PI
