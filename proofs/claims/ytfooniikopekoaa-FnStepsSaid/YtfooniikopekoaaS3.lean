/- Draws. -/
import Derived.Test.YtfooniikopekoaaN3
import Derived.Test.YtfooniikopekoaaV2
namespace Go.Proofs.Ytfooniikopekoaa.PI
open Go Go.Q
set_option maxRecDepth 100000
set_option maxHeartbeats 4000000
set_option linter.unusedSimpArgs false
set_option linter.unusedVariables false
abbrev BY (bs : List Int) : AV := .d (.slice (.int .u8)) bs
abbrev SRC (bs : List Int) (at_ : Nat) (seed : Int) : Heap := [(1000000, .box [BY bs, I at_, .d (.int .u64) seed])]
def okBy (bs : List Int) : Prop := bs.length ≤ 1000000000 ∧ ∀ x ∈ bs, 0 ≤ x ∧ x ≤ 255
theorem and_byte (y : Int) : 0 ≤ bitsOf .and .u64 y 255 ∧ bitsOf .and .u64 y 255 ≤ 255 := by
  have h : bitsOf .and .u64 y 255 = IntKind.u64.wrap ((BitVec.ofInt 64 y &&& BitVec.ofInt 64 255).toNat : Int) := rfl
  have h1 : (BitVec.ofInt 64 y &&& BitVec.ofInt 64 255).toNat ≤ 255 := by
    rw [BitVec.toNat_and]
    exact Nat.and_le_right
  rw [h, wrap_u64] <;> omega
theorem call_next (bs : List Int) (hb : okBy bs) (at_ : Nat) (ha : at_ ≤ 1000000) (seed : Int) : ∃ v seed', (0 ≤ v ∧ v ≤ 255) ∧ callOf pr 94 [.op 1000000 0] (SRC bs at_ seed) = some (I v, SRC bs (at_ + 1) seed') := by
  rw [call_eq pr 94 _ _ Try.f94 fn_94 _ rfl _ ann_94 rfl]
  have hw1 : IntKind.i64.wrap ((at_ : Int) + 1) = ((at_ + 1 : Nat) : Int) := by rw [wrap_i] <;> omega
  by_cases h : at_ < bs.length
  · have hx : ∀ z, bs.getD at_ z = bs[at_] := fun z => getD_of_lt h z
    have hr := hb.2 _ (List.getElem_mem h)
    generalize bs[at_] = x at *
    have hw2 : IntKind.i64.wrap x = x := by rw [wrap_i] <;> omega
    have hle : (((at_ + 1 : Nat) : Int) ≤ (bs.length : Int)) = True := tr (by omega)
    refine ⟨x, IntKind.u64.wrap (IntKind.u64.wrap (IntKind.u64.wrap (seed * 6364136223846793005) + IntKind.u64.wrap x) + 1442695040888963407), hr, ?_⟩
    simp -implicitDefEqProofs only [lt_cast h, tr h, zero_le_cast, Int.toNat_natCast, hx, hw1, hw2, hle, go_sem, Nat.reduceAdd, Nat.reduceSub, Nat.reduceMul, Nat.reduceMod, Nat.reduceLT, Nat.reduceLeDiff, Nat.reduceEqDiff, Nat.reduceBEq, Nat.reduceDiv, Int.reduceLT, Int.reduceLE, Int.reduceToNat, Int.reduceNeg, Int.reduceEq, ↓reduceIte, reduceCtorEq, ↓reduceDIte]
  · have h1 : ((at_ : Int) < (bs.length : Int)) = False := fa (by omega)
    have hle : (((at_ + 1 : Nat) : Int) ≤ (bs.length : Int)) = False := fa (by omega)
    have hr := and_byte ((IntKind.u64.wrap (IntKind.u64.wrap (IntKind.u64.wrap (seed * 6364136223846793005) + IntKind.u64.wrap 0) + 1442695040888963407)).fdiv (2 ^ min 40 64))
    generalize hB : bitsOf .and .u64 ((IntKind.u64.wrap (IntKind.u64.wrap (IntKind.u64.wrap (seed * 6364136223846793005) + IntKind.u64.wrap 0) + 1442695040888963407)).fdiv (2 ^ min 40 64)) 255 = bv at hr
    have hw2 : IntKind.i64.wrap bv = bv := by rw [wrap_i] <;> omega
    refine ⟨bv, IntKind.u64.wrap (IntKind.u64.wrap (IntKind.u64.wrap (seed * 6364136223846793005) + IntKind.u64.wrap 0) + 1442695040888963407), hr, ?_⟩
    simp -implicitDefEqProofs only [h1, zero_le_cast, Int.toNat_natCast, hw1, hle, go_sem, Nat.reduceAdd, Nat.reduceSub, Nat.reduceMul, Nat.reduceMod, Nat.reduceLT, Nat.reduceLeDiff, Nat.reduceEqDiff, Nat.reduceBEq, Nat.reduceDiv, Int.reduceLT, Int.reduceLE, Int.reduceToNat, Int.reduceNeg, Int.reduceEq, ↓reduceIte, reduceCtorEq, ↓reduceDIte]
    rw [hB, hw2]
/-- A draw of a few. -/
theorem call_pick (bs : List Int) (hb : okBy bs) (at_ : Nat) (ha : at_ ≤ 1000000) (seed : Int) (m : Int) (hm : 1 ≤ m ∧ m ≤ 200) : ∃ (v : Int) (at' : Nat) (seed' : Int), (0 ≤ v ∧ v < m) ∧ at' ≤ at_ + 1 ∧ callOf pr 61 [.op 1000000 0, I m] (SRC bs at_ seed) = some (I v, SRC bs at' seed') := by
  rw [call_eq pr 61 _ _ Try.f61 fn_61 _ rfl _ ann_61 rfl]
  by_cases h1 : m ≤ 1
  · refine ⟨0, at_, seed, by omega, by omega, ?_⟩
    simp -implicitDefEqProofs only [tr h1, go_sem, Nat.reduceAdd, Nat.reduceSub, Nat.reduceMul, Nat.reduceMod, Nat.reduceLT, Nat.reduceLeDiff, Nat.reduceEqDiff, Nat.reduceBEq, Nat.reduceDiv, Int.reduceLT, Int.reduceLE, Int.reduceToNat, Int.reduceNeg, Int.reduceEq, ↓reduceIte, reduceCtorEq, ↓reduceDIte]
  · obtain ⟨v, seed', hv, hn⟩ := call_next bs hb at_ ha seed
    have h0 : ¬ m = 0 := by omega
    have h2 : ¬ 200 < m := by omega
    have ht : v.tmod m = v % m := Int.tmod_eq_emod_of_nonneg (by omega)
    have r1 := Int.emod_nonneg v h0
    have r2 := Int.emod_lt_of_pos v (show 0 < m by omega)
    have hw : IntKind.i64.wrap (v % m) = v % m := by rw [wrap_i] <;> omega
    refine ⟨v % m, at_ + 1, seed', ⟨r1, r2⟩, by omega, ?_⟩
    simp -implicitDefEqProofs only [fa h1, hn, fa h0, fa h2, gt_iff_lt, ht, hw, go_sem, Nat.reduceAdd, Nat.reduceSub, Nat.reduceMul, Nat.reduceMod, Nat.reduceLT, Nat.reduceLeDiff, Nat.reduceEqDiff, Nat.reduceBEq, Nat.reduceDiv, Int.reduceLT, Int.reduceLE, Int.reduceToNat, Int.reduceNeg, Int.reduceEq, ↓reduceIte, reduceCtorEq, ↓reduceDIte]
theorem ascL_succ (k : Nat) : ascL (k + 1) = ascL k ++ [(k : Int)] := by simp [ascL, List.range_succ]
theorem ascL_length (k : Nat) : (ascL k).length = k := by simp [ascL]
theorem mvF_length : ∀ n : Fin 7, ∀ i : Fin n.1, (mvF n i).length = n := by decide +kernel
theorem mvF_len {n i : Nat} (hi : i < n) (hn : n ≤ 6) : (mvF n i).length = n := mvF_length ⟨n, by omega⟩ ⟨i, hi⟩
def rowsL (g : Nat → List Int) (k : Nat) : List (List Int) := (List.range k).map g
theorem rowsL_succ (g : Nat → List Int) (k : Nat) : rowsL g (k + 1) = rowsL g k ++ [g k] := by simp [rowsL, List.range_succ]
theorem rowsL_length (g : Nat → List Int) (k : Nat) : (rowsL g k).length = k := by simp [rowsL]
theorem call_from (bs : List Int) : callOf pr 60 [BY bs] [] = some (.op 320 0, [(320, .box [BY bs, I 0, .d (.int .u64) 0])]) := by
  rw [call_eq pr 60 _ _ Try.f60 fn_60 _ rfl _ ann_60 rfl]
  simp -implicitDefEqProofs only [go_sem, Nat.reduceAdd, Nat.reduceSub, Nat.reduceMul, Nat.reduceMod, Nat.reduceLT, Nat.reduceLeDiff, Nat.reduceEqDiff, Nat.reduceBEq, Nat.reduceDiv, Int.reduceLT, Int.reduceLE, Int.reduceToNat, Int.reduceNeg, Int.reduceEq, ↓reduceIte, reduceCtorEq, ↓reduceDIte]
abbrev UsH (bs : List Int) (at_ : Nat) (sd : Int) (us : List Int) : Heap := [(512, .box [BY bs, I at_, .d (.int .u64) sd]), (576, .arr true false (.int .i64) us)]
abbrev UsT (f j : Int) : Slots := [(3, .op 512 0), (4, .os (.t 576)), (5, I f), (6, I j)]
theorem us_step (bs : List Int) (f : Int) (j : Nat) (hj : j < 100) (at_ : Nat) (sd : Int) (us : List Int) (ho : us.length < 5000) (x : Int) (a1 : Nat) (s1 : Int)
    (hp1 : callOf pr 61 [.op 1000000 0, I f] (SRC bs at_ sd) = some (I x, SRC bs a1 s1)) :
    loopOf pr 29 0 ⟨UsT f ((j + 1 : Nat) : Int), UsH bs at_ sd us⟩ = loopOf pr 29 0 ⟨UsT f j, UsH bs a1 s1 (us ++ [x])⟩ := by
  have hr : ((us.length + 1) * 8 ≤ 140737488355328 ∧ us.length ≤ 9223372036854775806) = True := tr ⟨by omega, by omega⟩
  have h0 : (0 < ((j + 1 : Nat) : Int)) = True := tr (by omega)
  have hw : IntKind.i64.wrap (((j + 1 : Nat) : Int) - 1) = (j : Int) := by rw [wrap_i] <;> omega
  rw [loop_eq pr 29 0 _ Try.f29 fn_29 _ rfl _ ann_29 _ rfl]
  simp -implicitDefEqProofs only [h0, gt_iff_lt, hp1, hr, hw, go_sem, Nat.reduceAdd, Nat.reduceSub, Nat.reduceMul, Nat.reduceMod, Nat.reduceLT, Nat.reduceLeDiff, Nat.reduceEqDiff, Nat.reduceBEq, Nat.reduceDiv, Int.reduceLT, Int.reduceLE, Int.reduceToNat, Int.reduceNeg, Int.reduceEq, ↓reduceIte, reduceCtorEq, ↓reduceDIte]
theorem us_end (bs : List Int) (f : Int) (at_ : Nat) (sd : Int) (us : List Int) : loopOf pr 29 0 ⟨UsT f 0, UsH bs at_ sd us⟩ = some (.exit 0, ⟨UsT f 0, UsH bs at_ sd us⟩) := by
  rw [loop_eq pr 29 0 _ Try.f29 fn_29 _ rfl _ ann_29 _ rfl]
  simp -implicitDefEqProofs only [Int.lt_irrefl, gt_iff_lt, go_sem, Nat.reduceAdd, Nat.reduceSub, Nat.reduceMul, Nat.reduceMod, Nat.reduceLT, Nat.reduceLeDiff, Nat.reduceEqDiff, Nat.reduceBEq, Nat.reduceDiv, Int.reduceLT, Int.reduceLE, Int.reduceToNat, Int.reduceNeg, Int.reduceEq, ↓reduceIte, reduceCtorEq, ↓reduceDIte]
theorem loop_us (bs : List Int) (hb : okBy bs) (f : Int) (hf : 1 ≤ f ∧ f ≤ 8) : ∀ (j at_ : Nat) (sd : Int) (us : List Int), j < 100 → at_ + j ≤ 1000 → us.length + j < 1000 → (∀ x ∈ us, 0 ≤ x ∧ x < 8) →
    ∃ at' sd' us', (∀ x ∈ us', 0 ≤ x ∧ x < 8) ∧ List.length us' ≤ us.length + j ∧ loopOf pr 29 0 ⟨UsT f j, UsH bs at_ sd us⟩ = some (.exit 0, ⟨UsT f 0, UsH bs at' sd' us'⟩)
  | 0, at_, sd, us, _, _, _, ho => ⟨at_, sd, us, ho, by omega, us_end bs f at_ sd us⟩
  | j + 1, at_, sd, us, hj, ha, hl, ho => by
    obtain ⟨x, a1, s1, hx, ha1, hp1⟩ := call_pick bs hb at_ (by omega) sd f (by omega)
    obtain ⟨at', sd', us', h1, h2, h3⟩ := loop_us bs hb f hf j a1 s1 (us ++ [x]) (by omega) (by omega) (by rw [List.length_append, List.length_cons, List.length_nil]; omega) (fun y h => by
      rcases List.mem_append.1 h with h | h
      · exact ho y h
      · simp only [List.mem_singleton] at h
        omega)
    rw [List.length_append, List.length_cons, List.length_nil] at h2
    exact ⟨at', sd', us', h1, by omega, by rw [us_step bs f j (by omega) at_ sd us (by omega) x a1 s1 hp1]; exact h3⟩
theorem call_uses (bs : List Int) (hb : okBy bs) : ∃ us : List Int, (∀ x ∈ us, 0 ≤ x ∧ x < 8) ∧ us.length ≤ 29 ∧ callOf pr 29 [BY bs] [] = some (.os (.t 576), [(576, .arr true false (.int .i64) us)]) := by
  obtain ⟨v, a1, s1, hv, ha, hp⟩ := call_pick bs hb 0 (by omega) 0 7 (by omega)
  have hp : callOf pr 61 [.op 1000000 0, I 7] [(1000000, .box [BY bs, I 0, .d (.int .u64) 0])] = _ := hp
  obtain ⟨k, a2, s2, hk, ha2, hp2⟩ := call_pick bs hb a1 (by omega) s1 30 (by omega)
  obtain ⟨j, rfl⟩ : ∃ j : Nat, k = j := ⟨k.toNat, by omega⟩
  obtain ⟨at', sd', us, h1, h2, h3⟩ := loop_us bs hb (2 + v) (by omega) j a2 s2 [] (by omega) (by omega) (by simp only [List.length_nil]; omega) (fun o h => by cases h)
  have hf := call_from bs
  have hw : IntKind.i64.wrap (2 + v) = 2 + v := by rw [wrap_i] <;> omega
  refine ⟨us, h1, by simp only [List.length_nil] at h2; omega, ?_⟩
  rw [call_eq pr 29 _ _ Try.f29 fn_29 _ rfl _ ann_29 rfl]
  simp -implicitDefEqProofs only [hf, hp, hp2, hw, h3, go_sem, Nat.reduceAdd, Nat.reduceSub, Nat.reduceMul, Nat.reduceMod, Nat.reduceLT, Nat.reduceLeDiff, Nat.reduceEqDiff, Nat.reduceBEq, Nat.reduceDiv, Int.reduceLT, Int.reduceLE, Int.reduceToNat, Int.reduceNeg, Int.reduceEq, ↓reduceIte, reduceCtorEq, ↓reduceDIte]
theorem call_long (a b : List Int) : callOf pr 28 [BY a, BY b] [] = some (B (decide (1048576 < (a.length : Int)) || decide (1048576 < (b.length : Int))), []) := by
  rw [call_eq pr 28 _ _ Try.f28 fn_28 _ rfl _ ann_28 rfl]
  by_cases h : (1048576 : Int) < a.length
  · rw [decide_eq_true h]
    simp -implicitDefEqProofs only [tr h, gt_iff_lt, Bool.true_or, go_sem, Nat.reduceAdd, Nat.reduceSub, Nat.reduceMul, Nat.reduceMod, Nat.reduceLT, Nat.reduceLeDiff, Nat.reduceEqDiff, Nat.reduceBEq, Nat.reduceDiv, Int.reduceLT, Int.reduceLE, Int.reduceToNat, Int.reduceNeg, Int.reduceEq, ↓reduceIte, reduceCtorEq, ↓reduceDIte]
  · rw [decide_eq_false h]
    simp -implicitDefEqProofs only [fa h, gt_iff_lt, Bool.false_or, go_sem, Nat.reduceAdd, Nat.reduceSub, Nat.reduceMul, Nat.reduceMod, Nat.reduceLT, Nat.reduceLeDiff, Nat.reduceEqDiff, Nat.reduceBEq, Nat.reduceDiv, Int.reduceLT, Int.reduceLE, Int.reduceToNat, Int.reduceNeg, Int.reduceEq, ↓reduceIte, reduceCtorEq, ↓reduceDIte]
theorem loop_bhas (xs : List Int) (n : Int) : ∀ (suf pre : List Int), xs = pre ++ suf → pre.length + suf.length < 1000000 → loopOf pr 33 0 ⟨[(0, L xs), (1, I n), (5, I pre.length)], []⟩ = if suf.contains n = true then some (.ret, ⟨[(4, B true)], []⟩) else some (.exit 0, ⟨[(0, L xs), (1, I n), (5, I xs.length)], []⟩)
  | [], pre, e, h => by
    have h2 : pre.length = xs.length := by rw [e]; simp
    rw [if_neg (by simp), h2]
    rw [loop_eq pr 33 0 _ Try.f33 fn_33 _ rfl _ ann_33 _ rfl]
    simp -implicitDefEqProofs only [Int.lt_irrefl, go_sem, Nat.reduceAdd, Nat.reduceSub, Nat.reduceMul, Nat.reduceMod, Nat.reduceLT, Nat.reduceLeDiff, Nat.reduceEqDiff, Nat.reduceBEq, Nat.reduceDiv, Int.reduceLT, Int.reduceLE, Int.reduceToNat, Int.reduceNeg, Int.reduceEq, ↓reduceIte, reduceCtorEq, ↓reduceDIte]
  | x :: suf, pre, e, h => by
    have h1 : (((pre.length : Nat) : Int) < (xs.length : Int)) = True := tr (by rw [e]; simp; omega)
    have hx : ∀ z, xs.getD pre.length z = x := fun z => by rw [e]; simp
    have hw : IntKind.i64.wrap ((pre.length : Int) + 1) = ((pre ++ [x]).length : Int) := by
      simp only [List.length_append, List.length_cons, List.length_nil] at h ⊢
      rw [wrap_i] <;> omega
    by_cases he : x = n
    · rw [if_pos (by simp [he])]
      rw [loop_eq pr 33 0 _ Try.f33 fn_33 _ rfl _ ann_33 _ rfl]
      simp -implicitDefEqProofs only [h1, zero_le_cast, Int.toNat_natCast, hx, tr he, go_sem, Nat.reduceAdd, Nat.reduceSub, Nat.reduceMul, Nat.reduceMod, Nat.reduceLT, Nat.reduceLeDiff, Nat.reduceEqDiff, Nat.reduceBEq, Nat.reduceDiv, Int.reduceLT, Int.reduceLE, Int.reduceToNat, Int.reduceNeg, Int.reduceEq, ↓reduceIte, reduceCtorEq, ↓reduceDIte]
    · have ih := loop_bhas xs n suf (pre ++ [x]) (by rw [e]; simp) (by simp at h ⊢; omega)
      have hc : (x :: suf).contains n = suf.contains n := by
        rw [List.contains_cons]
        have : (n == x) = false := by simpa using fun e : n = x => he e.symm
        rw [this, Bool.false_or]
      rw [hc, ← ih]
      rw [loop_eq pr 33 0 _ Try.f33 fn_33 _ rfl _ ann_33 _ rfl]
      simp -implicitDefEqProofs only [h1, zero_le_cast, Int.toNat_natCast, hx, fa he, hw, go_sem, Nat.reduceAdd, Nat.reduceSub, Nat.reduceMul, Nat.reduceMod, Nat.reduceLT, Nat.reduceLeDiff, Nat.reduceEqDiff, Nat.reduceBEq, Nat.reduceDiv, Int.reduceLT, Int.reduceLE, Int.reduceToNat, Int.reduceNeg, Int.reduceEq, ↓reduceIte, reduceCtorEq, ↓reduceDIte]
theorem call_bhas (xs : List Int) (n : Int) (h : xs.length < 1000000) : callOf pr 33 [L xs, I n] [] = some (B (xs.contains n), []) := by
  have h1 := loop_bhas xs n xs [] rfl (by simpa using h)
  have h1 : loopOf pr 33 0 ⟨[(0, L xs), (1, I n), (5, I 0)], []⟩ = _ := h1
  rw [call_eq pr 33 _ _ Try.f33 fn_33 _ rfl _ ann_33 rfl]
  cases hc : xs.contains n with
  | true =>
    rw [hc, if_pos rfl] at h1
    simp -implicitDefEqProofs only [h1, go_sem, Nat.reduceAdd, Nat.reduceSub, Nat.reduceMul, Nat.reduceMod, Nat.reduceLT, Nat.reduceLeDiff, Nat.reduceEqDiff, Nat.reduceBEq, Nat.reduceDiv, Int.reduceLT, Int.reduceLE, Int.reduceToNat, Int.reduceNeg, Int.reduceEq, ↓reduceIte, reduceCtorEq, ↓reduceDIte]
  | false =>
    rw [hc, if_neg (by simp)] at h1
    simp -implicitDefEqProofs only [h1, go_sem, Nat.reduceAdd, Nat.reduceSub, Nat.reduceMul, Nat.reduceMod, Nat.reduceLT, Nat.reduceLeDiff, Nat.reduceEqDiff, Nat.reduceBEq, Nat.reduceDiv, Int.reduceLT, Int.reduceLE, Int.reduceToNat, Int.reduceNeg, Int.reduceEq, ↓reduceIte, reduceCtorEq, ↓reduceDIte]
theorem loop_nums (xs : List Int) : ∀ (suf pre : List Int), xs = pre ++ suf → pre.length + suf.length < 1000000 → loopOf pr 34 0 ⟨[(0, L xs), (1, L xs), (5, I pre.length)], []⟩ = some (.exit 0, ⟨[(0, L xs), (1, L xs), (5, I xs.length)], []⟩)
  | [], pre, e, h => by
    have h2 : pre.length = xs.length := by rw [e]; simp
    rw [h2]
    rw [loop_eq pr 34 0 _ Try.f34 fn_34 _ rfl _ ann_34 _ rfl]
    simp -implicitDefEqProofs only [Int.lt_irrefl, go_sem, Nat.reduceAdd, Nat.reduceSub, Nat.reduceMul, Nat.reduceMod, Nat.reduceLT, Nat.reduceLeDiff, Nat.reduceEqDiff, Nat.reduceBEq, Nat.reduceDiv, Int.reduceLT, Int.reduceLE, Int.reduceToNat, Int.reduceNeg, Int.reduceEq, ↓reduceIte, reduceCtorEq, ↓reduceDIte]
  | x :: suf, pre, e, h => by
    have h1 : (((pre.length : Nat) : Int) < (xs.length : Int)) = True := tr (by rw [e]; simp; omega)
    have hx : ∀ z, xs.getD pre.length z = x := fun z => by rw [e]; simp
    have hw : IntKind.i64.wrap ((pre.length : Int) + 1) = ((pre ++ [x]).length : Int) := by
      simp only [List.length_append, List.length_cons, List.length_nil] at h ⊢
      rw [wrap_i] <;> omega
    have ih := loop_nums xs suf (pre ++ [x]) (by rw [e]; simp) (by simp at h ⊢; omega)
    rw [← ih]
    rw [loop_eq pr 34 0 _ Try.f34 fn_34 _ rfl _ ann_34 _ rfl]
    simp -implicitDefEqProofs only [h1, zero_le_cast, Int.toNat_natCast, hx, hw, go_sem, Nat.reduceAdd, Nat.reduceSub, Nat.reduceMul, Nat.reduceMod, Nat.reduceLT, Nat.reduceLeDiff, Nat.reduceEqDiff, Nat.reduceBEq, Nat.reduceDiv, Int.reduceLT, Int.reduceLE, Int.reduceToNat, Int.reduceNeg, Int.reduceEq, ↓reduceIte, reduceCtorEq, ↓reduceDIte]
theorem call_nums (xs : List Int) (h : xs.length < 1000000) : callOf pr 34 [L xs, L xs] [] = some (B true, []) := by
  have h1 := loop_nums xs xs [] rfl (by simpa using h)
  have h1 : loopOf pr 34 0 ⟨[(0, L xs), (1, L xs), (5, I 0)], []⟩ = _ := h1
  rw [call_eq pr 34 _ _ Try.f34 fn_34 _ rfl _ ann_34 rfl]
  simp -implicitDefEqProofs only [h1, go_sem, Nat.reduceAdd, Nat.reduceSub, Nat.reduceMul, Nat.reduceMod, Nat.reduceLT, Nat.reduceLeDiff, Nat.reduceEqDiff, Nat.reduceBEq, Nat.reduceDiv, Int.reduceLT, Int.reduceLE, Int.reduceToNat, Int.reduceNeg, Int.reduceEq, ↓reduceIte, reduceCtorEq, ↓reduceDIte]
/-- All but one. -/
def butL (i k : Nat) : List Int := ((List.range k).filter fun j => decide (j ≠ i)).map fun (j : Nat) => (j : Int)
theorem butL_succ (i k : Nat) : butL i (k + 1) = if k = i then butL i k else butL i k ++ [(k : Int)] := by
  simp only [butL, List.range_succ, List.filter_append]
  by_cases h : k = i <;> simp [h]
theorem butL_length (i k : Nat) : (butL i k).length ≤ k := by
  simp only [butL, List.length_map]
  exact Nat.le_trans (List.length_filter_le _ _) (by simp)
theorem fro_s (i n k : Nat) (hk : k < n) (hn : n < 100) (xs ys : List Int) (hl : xs.length ≤ 200) (hy : ys = if k = i then xs else xs ++ [(k : Int)]) : loopOf pr 129 0 ⟨[(0, I i), (1, I n), (5, .os (.t 512)), (6, I k)], [(512, .arr true false (.int .i64) xs)]⟩ = loopOf pr 129 0 ⟨[(0, I i), (1, I n), (5, .os (.t 512)), (6, I ((k + 1 : Nat) : Int))], [(512, .arr true false (.int .i64) ys)]⟩ := by
  have hr : ((xs.length + 1) * 8 ≤ 140737488355328 ∧ xs.length ≤ 9223372036854775806) = True := tr ⟨by omega, by omega⟩
  have hw : IntKind.i64.wrap ((k : Int) + 1) = ((k + 1 : Nat) : Int) := by rw [wrap_i] <;> omega
  rw [loop_eq pr 129 0 _ Try.f129 fn_129 _ rfl _ ann_129 _ rfl]
  by_cases h : k = i
  · have h1 : ((k : Int) = (i : Int)) = True := tr (by omega)
    rw [if_pos h] at hy
    simp -implicitDefEqProofs only [lt_cast hk, hr, hw, h1, hy, go_sem, Nat.reduceAdd, Nat.reduceSub, Nat.reduceMul, Nat.reduceMod, Nat.reduceLT, Nat.reduceLeDiff, Nat.reduceEqDiff, Nat.reduceBEq, Nat.reduceDiv, Int.reduceLT, Int.reduceLE, Int.reduceToNat, Int.reduceNeg, Int.reduceEq, ↓reduceIte, reduceCtorEq, ↓reduceDIte]
  · have h1 : ((k : Int) = (i : Int)) = False := fa (by omega)
    rw [if_neg h] at hy
    simp -implicitDefEqProofs only [lt_cast hk, hr, hw, h1, hy, go_sem, Nat.reduceAdd, Nat.reduceSub, Nat.reduceMul, Nat.reduceMod, Nat.reduceLT, Nat.reduceLeDiff, Nat.reduceEqDiff, Nat.reduceBEq, Nat.reduceDiv, Int.reduceLT, Int.reduceLE, Int.reduceToNat, Int.reduceNeg, Int.reduceEq, ↓reduceIte, reduceCtorEq, ↓reduceDIte]
theorem fro_e (i n : Nat) (xs : List Int) : loopOf pr 129 0 ⟨[(0, I i), (1, I n), (5, .os (.t 512)), (6, I n)], [(512, .arr true false (.int .i64) xs)]⟩ = some (.exit 0, ⟨[(0, I i), (1, I n), (5, .os (.t 512)), (6, I n)], [(512, .arr true false (.int .i64) xs)]⟩) := by
  rw [loop_eq pr 129 0 _ Try.f129 fn_129 _ rfl _ ann_129 _ rfl]
  simp -implicitDefEqProofs only [Int.lt_irrefl, go_sem, Nat.reduceAdd, Nat.reduceSub, Nat.reduceMul, Nat.reduceMod, Nat.reduceLT, Nat.reduceLeDiff, Nat.reduceEqDiff, Nat.reduceBEq, Nat.reduceDiv, Int.reduceLT, Int.reduceLE, Int.reduceToNat, Int.reduceNeg, Int.reduceEq, ↓reduceIte, reduceCtorEq, ↓reduceDIte]
theorem fro_l (i n : Nat) (hn : n < 100) : ∀ (d k : Nat), k + d = n → loopOf pr 129 0 ⟨[(0, I i), (1, I n), (5, .os (.t 512)), (6, I k)], [(512, .arr true false (.int .i64) ((i : Int) :: butL i k))]⟩ = some (.exit 0, ⟨[(0, I i), (1, I n), (5, .os (.t 512)), (6, I n)], [(512, .arr true false (.int .i64) ((i : Int) :: butL i n))]⟩)
  | 0, k, h => by obtain rfl : k = n := by omega
                  exact fro_e i k _
  | d + 1, k, h => by
    have hl := butL_length i k
    rw [fro_s i n k (by omega) hn ((i : Int) :: butL i k) ((i : Int) :: butL i (k + 1)) (by simp; omega) (by rw [butL_succ]; split <;> simp)]
    exact fro_l i n hn d (k + 1) (by omega)
theorem call_fro (i n : Nat) (hn : n < 100) : callOf pr 129 [I i, I n] [] = some (.os (.t 512), [(512, .arr true false (.int .i64) (mvF n i))]) := by
  have h := fro_l i n hn n 0 (by omega)
  have h : loopOf pr 129 0 ⟨[(0, I i), (1, I n), (5, .os (.t 512)), (6, I 0)], [(512, .arr true false (.int .i64) [(i : Int)])]⟩ = some (.exit 0, ⟨[(0, I i), (1, I n), (5, .os (.t 512)), (6, I n)], [(512, .arr true false (.int .i64) (mvF n i))]⟩) := h
  rw [call_eq pr 129 _ _ Try.f129 fn_129 _ rfl _ ann_129 rfl]
  simp -implicitDefEqProofs only [h, go_sem, Nat.reduceAdd, Nat.reduceSub, Nat.reduceMul, Nat.reduceMod, Nat.reduceLT, Nat.reduceLeDiff, Nat.reduceEqDiff, Nat.reduceBEq, Nat.reduceDiv, Int.reduceLT, Int.reduceLE, Int.reduceToNat, Int.reduceNeg, Int.reduceEq, ↓reduceIte, reduceCtorEq, ↓reduceDIte]
theorem bac_s (i n k : Nat) (hk : k < n) (hn : n < 100) (xs ys : List Int) (hl : xs.length ≤ 200) (hy : ys = if k = i then xs else xs ++ [(k : Int)]) : loopOf pr 130 0 ⟨[(0, I i), (1, I n), (5, .os (.t 448)), (6, I k)], [(448, .arr true false (.int .i64) xs)]⟩ = loopOf pr 130 0 ⟨[(0, I i), (1, I n), (5, .os (.t 448)), (6, I ((k + 1 : Nat) : Int))], [(448, .arr true false (.int .i64) ys)]⟩ := by
  have hr : ((xs.length + 1) * 8 ≤ 140737488355328 ∧ xs.length ≤ 9223372036854775806) = True := tr ⟨by omega, by omega⟩
  have hw : IntKind.i64.wrap ((k : Int) + 1) = ((k + 1 : Nat) : Int) := by rw [wrap_i] <;> omega
  rw [loop_eq pr 130 0 _ Try.f130 fn_130 _ rfl _ ann_130 _ rfl]
  by_cases h : k = i
  · have h1 : ((k : Int) = (i : Int)) = True := tr (by omega)
    rw [if_pos h] at hy
    simp -implicitDefEqProofs only [lt_cast hk, hr, hw, h1, hy, go_sem, Nat.reduceAdd, Nat.reduceSub, Nat.reduceMul, Nat.reduceMod, Nat.reduceLT, Nat.reduceLeDiff, Nat.reduceEqDiff, Nat.reduceBEq, Nat.reduceDiv, Int.reduceLT, Int.reduceLE, Int.reduceToNat, Int.reduceNeg, Int.reduceEq, ↓reduceIte, reduceCtorEq, ↓reduceDIte]
  · have h1 : ((k : Int) = (i : Int)) = False := fa (by omega)
    rw [if_neg h] at hy
    simp -implicitDefEqProofs only [lt_cast hk, hr, hw, h1, hy, go_sem, Nat.reduceAdd, Nat.reduceSub, Nat.reduceMul, Nat.reduceMod, Nat.reduceLT, Nat.reduceLeDiff, Nat.reduceEqDiff, Nat.reduceBEq, Nat.reduceDiv, Int.reduceLT, Int.reduceLE, Int.reduceToNat, Int.reduceNeg, Int.reduceEq, ↓reduceIte, reduceCtorEq, ↓reduceDIte]
theorem bac_e (i n : Nat) (xs : List Int) : loopOf pr 130 0 ⟨[(0, I i), (1, I n), (5, .os (.t 448)), (6, I n)], [(448, .arr true false (.int .i64) xs)]⟩ = some (.exit 0, ⟨[(0, I i), (1, I n), (5, .os (.t 448)), (6, I n)], [(448, .arr true false (.int .i64) xs)]⟩) := by
  rw [loop_eq pr 130 0 _ Try.f130 fn_130 _ rfl _ ann_130 _ rfl]
  simp -implicitDefEqProofs only [Int.lt_irrefl, go_sem, Nat.reduceAdd, Nat.reduceSub, Nat.reduceMul, Nat.reduceMod, Nat.reduceLT, Nat.reduceLeDiff, Nat.reduceEqDiff, Nat.reduceBEq, Nat.reduceDiv, Int.reduceLT, Int.reduceLE, Int.reduceToNat, Int.reduceNeg, Int.reduceEq, ↓reduceIte, reduceCtorEq, ↓reduceDIte]
theorem bac_l (i n : Nat) (hn : n < 100) : ∀ (d k : Nat), k + d = n → loopOf pr 130 0 ⟨[(0, I i), (1, I n), (5, .os (.t 448)), (6, I k)], [(448, .arr true false (.int .i64) (butL i k))]⟩ = some (.exit 0, ⟨[(0, I i), (1, I n), (5, .os (.t 448)), (6, I n)], [(448, .arr true false (.int .i64) (butL i n))]⟩)
  | 0, k, h => by obtain rfl : k = n := by omega
                  exact bac_e i k _
  | d + 1, k, h => by
    have hl := butL_length i k
    rw [bac_s i n k (by omega) hn (butL i k) (butL i (k + 1)) (by omega) (butL_succ i k)]
    exact bac_l i n hn d (k + 1) (by omega)
def mbF (n i : Nat) : List Int := butL i n ++ [(i : Int)]
theorem call_bac (i n : Nat) (hn : n < 100) : callOf pr 130 [I i, I n] [] = some (.os (.t 448), [(448, .arr true false (.int .i64) (mbF n i))]) := by
  have h := bac_l i n hn n 0 (by omega)
  have h : loopOf pr 130 0 ⟨[(0, I i), (1, I n), (5, .os (.t 448)), (6, I 0)], [(448, .arr true false (.int .i64) [])]⟩ = _ := h
  have hl := butL_length i n
  have hr : (((butL i n).length + 1) * 8 ≤ 140737488355328 ∧ (butL i n).length ≤ 9223372036854775806) = True := tr ⟨by omega, by omega⟩
  unfold mbF
  rw [call_eq pr 130 _ _ Try.f130 fn_130 _ rfl _ ann_130 rfl]
  simp -implicitDefEqProofs only [h, hr, go_sem, Nat.reduceAdd, Nat.reduceSub, Nat.reduceMul, Nat.reduceMod, Nat.reduceLT, Nat.reduceLeDiff, Nat.reduceEqDiff, Nat.reduceBEq, Nat.reduceDiv, Int.reduceLT, Int.reduceLE, Int.reduceToNat, Int.reduceNeg, Int.reduceEq, ↓reduceIte, reduceCtorEq, ↓reduceDIte]
theorem call_sam (n : Nat) (h0 : 0 < n) (hn : n < 100) : callOf pr 123 [I n] [] = some (.os (.t 384), [(384, .arr true false (.int .i64) (mbF n (n - 1)))]) := by
  have h := call_bac (n - 1) n hn
  have hw : IntKind.i64.wrap ((n : Int) - 1) = ((n - 1 : Nat) : Int) := by rw [wrap_i] <;> omega
  rw [call_eq pr 123 _ _ Try.f123 fn_123 _ rfl _ ann_123 rfl]
  simp -implicitDefEqProofs only [h, hw, go_sem, Nat.reduceAdd, Nat.reduceSub, Nat.reduceMul, Nat.reduceMod, Nat.reduceLT, Nat.reduceLeDiff, Nat.reduceEqDiff, Nat.reduceBEq, Nat.reduceDiv, Int.reduceLT, Int.reduceLE, Int.reduceToNat, Int.reduceNeg, Int.reduceEq, ↓reduceIte, reduceCtorEq, ↓reduceDIte]
/-- The next seed. -/
def nextS (s : Int) : Int := (48271 * s).tmod 2147483647
theorem nextS_range {s : Int} (h : 0 ≤ s ∧ s ≤ 2147483647) : 0 ≤ nextS s ∧ nextS s ≤ 2147483647 := by
  unfold nextS
  rw [Int.tmod_eq_emod_of_nonneg (by omega)]
  omega
theorem call_nx (s : Int) (h : 0 ≤ s ∧ s ≤ 2147483647) : callOf pr 131 [I s] [] = some (I (nextS s), []) := by
  have hw : IntKind.i64.wrap (48271 * s) = 48271 * s := by rw [wrap_i] <;> omega
  have hr := nextS_range h
  have hw2 : IntKind.i64.wrap ((48271 * s).tmod 2147483647) = nextS s := by
    show IntKind.i64.wrap (nextS s) = nextS s
    rw [wrap_i] <;> omega
  rw [call_eq pr 131 _ _ Try.f131 fn_131 _ rfl _ ann_131 rfl]
  simp -implicitDefEqProofs only [hw, hw2, go_sem, Nat.reduceAdd, Nat.reduceSub, Nat.reduceMul, Nat.reduceMod, Nat.reduceLT, Nat.reduceLeDiff, Nat.reduceEqDiff, Nat.reduceBEq, Nat.reduceDiv, Int.reduceLT, Int.reduceLE, Int.reduceToNat, Int.reduceNeg, Int.reduceEq, ↓reduceIte, reduceCtorEq, ↓reduceDIte] <;> rfl
theorem ord_s (s : Int) (n k : Nat) (hk : k < n) (hn : n < 100) : loopOf pr 122 0 ⟨[(0, I s), (1, I n), (6, .os (.t 704)), (7, I k)], [(704, .arr true false (.int .i64) (ascL k))]⟩ = loopOf pr 122 0 ⟨[(0, I s), (1, I n), (6, .os (.t 704)), (7, I ((k + 1 : Nat) : Int))], [(704, .arr true false (.int .i64) (ascL (k + 1)))]⟩ := by
  have hr : (((ascL k).length + 1) * 8 ≤ 140737488355328 ∧ (ascL k).length ≤ 9223372036854775806) = True := tr (by rw [ascL_length]; omega)
  have hw : IntKind.i64.wrap ((k : Int) + 1) = ((k + 1 : Nat) : Int) := by rw [wrap_i] <;> omega
  rw [ascL_succ]
  rw [loop_eq pr 122 0 _ Try.f122 fn_122 _ rfl _ ann_122 _ rfl]
  simp -implicitDefEqProofs only [lt_cast hk, hr, hw, go_sem, Nat.reduceAdd, Nat.reduceSub, Nat.reduceMul, Nat.reduceMod, Nat.reduceLT, Nat.reduceLeDiff, Nat.reduceEqDiff, Nat.reduceBEq, Nat.reduceDiv, Int.reduceLT, Int.reduceLE, Int.reduceToNat, Int.reduceNeg, Int.reduceEq, ↓reduceIte, reduceCtorEq, ↓reduceDIte]
theorem ord_e (s : Int) (n : Nat) (xs : List Int) : loopOf pr 122 0 ⟨[(0, I s), (1, I n), (6, .os (.t 704)), (7, I n)], [(704, .arr true false (.int .i64) xs)]⟩ = some (.exit 0, ⟨[(0, I s), (1, I n), (6, .os (.t 704)), (7, I n)], [(704, .arr true false (.int .i64) xs)]⟩) := by
  rw [loop_eq pr 122 0 _ Try.f122 fn_122 _ rfl _ ann_122 _ rfl]
  simp -implicitDefEqProofs only [Int.lt_irrefl, go_sem, Nat.reduceAdd, Nat.reduceSub, Nat.reduceMul, Nat.reduceMod, Nat.reduceLT, Nat.reduceLeDiff, Nat.reduceEqDiff, Nat.reduceBEq, Nat.reduceDiv, Int.reduceLT, Int.reduceLE, Int.reduceToNat, Int.reduceNeg, Int.reduceEq, ↓reduceIte, reduceCtorEq, ↓reduceDIte]
theorem ord_l (s : Int) (n : Nat) (hn : n < 100) : ∀ (d k : Nat), k + d = n → loopOf pr 122 0 ⟨[(0, I s), (1, I n), (6, .os (.t 704)), (7, I k)], [(704, .arr true false (.int .i64) (ascL k))]⟩ = some (.exit 0, ⟨[(0, I s), (1, I n), (6, .os (.t 704)), (7, I n)], [(704, .arr true false (.int .i64) (ascL n))]⟩)
  | 0, k, h => by obtain rfl : k = n := by omega
                  exact ord_e s k _
  | d + 1, k, h => by rw [ord_s s n k (by omega) hn]; exact ord_l s n hn d (k + 1) (by omega)
theorem swp_s (s s' : Int) (n j k : Nat) (xs : List Int) (x y : Int) (hj : j + 1 < xs.length) (hl : xs.length < 100) (hk : k ≤ j + 1) (h : callOf pr 131 [I s] [] = some (I s', [])) (hm : s'.tmod ((j + 1 + 1 : Nat) : Int) = (k : Int)) (hx : ∀ z, xs.getD (j + 1) z = x) (hy : ∀ z, xs.getD k z = y) :
    loopOf pr 122 1 ⟨[(0, I s), (6, .os (.t 704)), (8, I ((j + 1 : Nat) : Int))], [(704, .arr true false (.int .i64) xs)]⟩ = loopOf pr 122 1 ⟨[(0, I s'), (6, .os (.t 704)), (8, I j)], [(704, .arr true false (.int .i64) ((xs.set (j + 1) y).set k x))]⟩ := by
  have h0 : (0 < ((j + 1 : Nat) : Int)) = True := tr (by omega)
  have h1 : (((j + 1 + 1 : Nat) : Int) = 0) = False := fa (by omega)
  have h2 : (((j + 1 : Nat) : Int) < (xs.length : Int)) = True := tr (by omega)
  have h3 : ((k : Int) < (xs.length : Int)) = True := tr (by omega)
  have h4 : ((k : Int) < ((xs.set (j + 1) y).length : Int)) = True := tr (by rw [List.length_set]; omega)
  have hw : IntKind.i64.wrap (((j + 1 : Nat) : Int) + 1) = ((j + 1 + 1 : Nat) : Int) := by rw [wrap_i] <;> omega
  have hw2 : IntKind.i64.wrap (((j + 1 : Nat) : Int) - 1) = (j : Int) := by rw [wrap_i] <;> omega
  have hw3 : IntKind.i64.wrap (k : Int) = (k : Int) := by rw [wrap_i] <;> omega
  rw [loop_eq pr 122 1 _ Try.f122 fn_122 _ rfl _ ann_122 _ rfl]
  simp -implicitDefEqProofs only [h0, gt_iff_lt, h, hw, hw2, hw3, hm, h1, h2, h3, h4, hx, hy, zero_le_cast, Int.toNat_natCast, go_sem, Nat.reduceAdd, Nat.reduceSub, Nat.reduceMul, Nat.reduceMod, Nat.reduceLT, Nat.reduceLeDiff, Nat.reduceEqDiff, Nat.reduceBEq, Nat.reduceDiv, Int.reduceLT, Int.reduceLE, Int.reduceToNat, Int.reduceNeg, Int.reduceEq, ↓reduceIte, reduceCtorEq, ↓reduceDIte]
theorem swp_e (s : Int) (n : Nat) (xs : List Int) : loopOf pr 122 1 ⟨[(0, I s), (6, .os (.t 704)), (8, I 0)], [(704, .arr true false (.int .i64) xs)]⟩ = some (.exit 2, ⟨[(0, I s), (6, .os (.t 704)), (8, I 0)], [(704, .arr true false (.int .i64) xs)]⟩) := by
  rw [loop_eq pr 122 1 _ Try.f122 fn_122 _ rfl _ ann_122 _ rfl]
  simp -implicitDefEqProofs only [Int.lt_irrefl, gt_iff_lt, go_sem, Nat.reduceAdd, Nat.reduceSub, Nat.reduceMul, Nat.reduceMod, Nat.reduceLT, Nat.reduceLeDiff, Nat.reduceEqDiff, Nat.reduceBEq, Nat.reduceDiv, Int.reduceLT, Int.reduceLE, Int.reduceToNat, Int.reduceNeg, Int.reduceEq, ↓reduceIte, reduceCtorEq, ↓reduceDIte]
theorem swp_l (n : Nat) : ∀ (j : Nat) (s : Int) (xs : List Int), 0 ≤ s ∧ s ≤ 2147483647 → j < xs.length → xs.length < 100 →
    ∃ s' ys, (0 ≤ s' ∧ s' ≤ 2147483647) ∧ List.Perm ys xs ∧ loopOf pr 122 1 ⟨[(0, I s), (6, .os (.t 704)), (8, I j)], [(704, .arr true false (.int .i64) xs)]⟩ = some (.exit 2, ⟨[(0, I s'), (6, .os (.t 704)), (8, I 0)], [(704, .arr true false (.int .i64) ys)]⟩)
  | 0, s, xs, hs, hj, hl => ⟨s, xs, hs, List.Perm.refl _, swp_e s n xs⟩
  | j + 1, s, xs, hs, hj, hl => by
    have hr := nextS_range hs
    have hm : (nextS s).tmod ((j + 1 + 1 : Nat) : Int) = (nextS s) % ((j + 1 + 1 : Nat) : Int) := Int.tmod_eq_emod_of_nonneg hr.1
    have hm1 := Int.emod_nonneg (nextS s) (show ((j + 1 + 1 : Nat) : Int) ≠ 0 by omega)
    have hm2 := Int.emod_lt_of_pos (nextS s) (show 0 < ((j + 1 + 1 : Nat) : Int) by omega)
    obtain ⟨k, hk⟩ : ∃ k : Nat, (nextS s) % ((j + 1 + 1 : Nat) : Int) = (k : Int) := ⟨((nextS s) % ((j + 1 + 1 : Nat) : Int)).toNat, by omega⟩
    have hkl : k < xs.length := by omega
    have hstep := swp_s s (nextS s) n j k xs xs[j + 1] xs[k] hj hl (by omega) (call_nx s hs) (hm.trans hk) (fun z => getD_of_lt hj z) (fun z => getD_of_lt hkl z)
    obtain ⟨s', ys, q1, q2, q3⟩ := swp_l n j (nextS s) ((xs.set (j + 1) xs[k]).set k xs[j + 1]) hr (by simp; omega) (by simpa using hl)
    exact ⟨s', ys, q1, q2.trans (List.set_set_perm hj hkl), by rw [hstep]; exact q3⟩
theorem call_ord (s : Int) (hs : 0 ≤ s ∧ s ≤ 2147483647) (n : Nat) (h0 : 0 < n) (hn : n < 100) : ∃ s' ys, (0 ≤ s' ∧ s' ≤ 2147483647) ∧ List.Perm ys (ascL n) ∧ callOf pr 122 [I s, I n] [] = some (.tuple [.os (.t 704), I s'], [(704, .arr true false (.int .i64) ys)]) := by
  have h1 := ord_l s n hn n 0 (by omega)
  have h1 : loopOf pr 122 0 ⟨[(0, I s), (1, I n), (6, .os (.t 704)), (7, I 0)], [(704, .arr true false (.int .i64) [])]⟩ = _ := h1
  obtain ⟨s', ys, q1, q2, q3⟩ := swp_l n (n - 1) s (ascL n) hs (by rw [ascL_length]; omega) (by rw [ascL_length]; omega)
  have hw : IntKind.i64.wrap ((n : Int) - 1) = ((n - 1 : Nat) : Int) := by rw [wrap_i] <;> omega
  refine ⟨s', ys, q1, q2, ?_⟩
  rw [call_eq pr 122 _ _ Try.f122 fn_122 _ rfl _ ann_122 rfl]
  simp -implicitDefEqProofs only [h1, hw, q3, go_sem, Nat.reduceAdd, Nat.reduceSub, Nat.reduceMul, Nat.reduceMod, Nat.reduceLT, Nat.reduceLeDiff, Nat.reduceEqDiff, Nat.reduceBEq, Nat.reduceDiv, Int.reduceLT, Int.reduceLE, Int.reduceToNat, Int.reduceNeg, Int.reduceEq, ↓reduceIte, reduceCtorEq, ↓reduceDIte]
theorem da_0 (n : Nat) (hn : 0 < n) (h6 : n ≤ 6) (ms : List Int) : loopOf pr 117 0 ⟨[(0, I n), (2, .op 128 0), (3, .op 192 0), (4, I 0)], [(128, .box [.nilS, .nilS]), (512, .arr true false (.int .i64) ms), (192, .box [.nilS, .os (.t 512)])]⟩ =
    loopOf pr 117 0 ⟨[(0, I n), (2, .op 128 0), (3, .op 192 0), (4, I ((1 : Nat) : Int))], [(128, .box [.nilS, .nilS]), (512, .arr true false (.int .i64) ms), (192, .box [.os (.t 1344), .os (.t 512)]), (1344, .arr true true (.slice (.int .i64)) (rowsL (mvF n) 1))]⟩ := by
  have h0 : ((0 : Int) < (n : Int)) = True := tr (by omega)
  have hr := call_fro 0 n (by omega)
  have hr : callOf pr 129 [I 0, I n] [] = some (.os (.t 512), [(512, .arr true false (.int .i64) ((mvF n) 0))]) := hr
  have hw : IntKind.i64.wrap (0 + 1) = ((1 : Nat) : Int) := by decide
  rw [show rowsL (mvF n) 1 = [(mvF n) 0] from rfl]
  generalize (mvF n) 0 = xs at *
  rw [loop_eq pr 117 0 _ Try.f117 fn_117 _ rfl _ ann_117 _ rfl]
  simp -implicitDefEqProofs only [h0, hr, hw, go_sem, Nat.reduceAdd, Nat.reduceSub, Nat.reduceMul, Nat.reduceMod, Nat.reduceLT, Nat.reduceLeDiff, Nat.reduceEqDiff, Nat.reduceBEq, Nat.reduceDiv, Int.reduceLT, Int.reduceLE, Int.reduceToNat, Int.reduceNeg, Int.reduceEq, ↓reduceIte, reduceCtorEq, ↓reduceDIte]
theorem da_s (n k : Nat) (hk : k < n) (hn : n ≤ 6) (ms : List Int) : loopOf pr 117 0 ⟨[(0, I n), (2, .op 128 0), (3, .op 192 0), (4, I k)], [(128, .box [.nilS, .nilS]), (512, .arr true false (.int .i64) ms), (192, .box [.os (.t 1344), .os (.t 512)]), (1344, .arr true true (.slice (.int .i64)) (rowsL (mvF n) k))]⟩ =
    loopOf pr 117 0 ⟨[(0, I n), (2, .op 128 0), (3, .op 192 0), (4, I ((k + 1 : Nat) : Int))], [(128, .box [.nilS, .nilS]), (512, .arr true false (.int .i64) ms), (192, .box [.os (.t 1344), .os (.t 512)]), (1344, .arr true true (.slice (.int .i64)) (rowsL (mvF n) (k + 1)))]⟩ := by
  have hl : (rowsL (mvF n) k).length < 1000 := by rw [rowsL_length]; omega
  have hr := call_fro k n (by omega)
  have hr : callOf pr 129 [I k, I n] [] = some (.os (.t 512), [(512, .arr true false (.int .i64) (mvF n k))]) := hr
  have hw : IntKind.i64.wrap ((k : Int) + 1) = ((k + 1 : Nat) : Int) := by rw [wrap_i] <;> omega
  rw [show rowsL (mvF n) (k + 1) = rowsL (mvF n) k ++ [mvF n k] from rowsL_succ (mvF n) k]
  generalize rowsL (mvF n) k = hs at *
  generalize mvF n k = xs at *
  have hr2 : ((hs.length + 1) * 24 ≤ 140737488355328 ∧ hs.length ≤ 9223372036854775806) = True := tr ⟨by omega, by omega⟩
  rw [loop_eq pr 117 0 _ Try.f117 fn_117 _ rfl _ ann_117 _ rfl]
  simp -implicitDefEqProofs only [lt_cast hk, hr, hr2, hw, go_sem, Nat.reduceAdd, Nat.reduceSub, Nat.reduceMul, Nat.reduceMod, Nat.reduceLT, Nat.reduceLeDiff, Nat.reduceEqDiff, Nat.reduceBEq, Nat.reduceDiv, Int.reduceLT, Int.reduceLE, Int.reduceToNat, Int.reduceNeg, Int.reduceEq, ↓reduceIte, reduceCtorEq, ↓reduceDIte]
theorem da_e (n : Nat) (hs : List (List Int)) (ms : List Int) : loopOf pr 117 0 ⟨[(0, I n), (2, .op 128 0), (3, .op 192 0), (4, I n)], [(128, .box [.nilS, .nilS]), (512, .arr true false (.int .i64) ms), (192, .box [.os (.t 1344), .os (.t 512)]), (1344, .arr true true (.slice (.int .i64)) hs)]⟩ =
    some (.exit 0, ⟨[(0, I n), (2, .op 128 0), (3, .op 192 0), (4, I n)], [(128, .box [.nilS, .nilS]), (512, .arr true false (.int .i64) ms), (192, .box [.os (.t 1344), .os (.t 512)]), (1344, .arr true true (.slice (.int .i64)) hs)]⟩) := by
  rw [loop_eq pr 117 0 _ Try.f117 fn_117 _ rfl _ ann_117 _ rfl]
  simp -implicitDefEqProofs only [Int.lt_irrefl, go_sem, Nat.reduceAdd, Nat.reduceSub, Nat.reduceMul, Nat.reduceMod, Nat.reduceLT, Nat.reduceLeDiff, Nat.reduceEqDiff, Nat.reduceBEq, Nat.reduceDiv, Int.reduceLT, Int.reduceLE, Int.reduceToNat, Int.reduceNeg, Int.reduceEq, ↓reduceIte, reduceCtorEq, ↓reduceDIte]
theorem da_l (n : Nat) (hn : n ≤ 6) (ms : List Int) : ∀ (j k : Nat), k + j = n → loopOf pr 117 0 ⟨[(0, I n), (2, .op 128 0), (3, .op 192 0), (4, I k)], [(128, .box [.nilS, .nilS]), (512, .arr true false (.int .i64) ms), (192, .box [.os (.t 1344), .os (.t 512)]), (1344, .arr true true (.slice (.int .i64)) (rowsL (mvF n) k))]⟩ =
    some (.exit 0, ⟨[(0, I n), (2, .op 128 0), (3, .op 192 0), (4, I n)], [(128, .box [.nilS, .nilS]), (512, .arr true false (.int .i64) ms), (192, .box [.os (.t 1344), .os (.t 512)]), (1344, .arr true true (.slice (.int .i64)) (rowsL (mvF n) n))]⟩)
  | 0, k, h => by obtain rfl : k = n := by omega
                  exact da_e k _ ms
  | j + 1, k, h => by rw [da_s n k (by omega) hn ms]; exact da_l n hn ms j (k + 1) (by omega)
theorem da (n : Nat) (h0 : 0 < n) (hn : n ≤ 6) : callOf pr 117 [I n] [] = some (.agg [.os (.t 1344), .os (.t 512)], [(512, .arr true false (.int .i64) (mvF n (n - 1))), (1344, .arr true true (.slice (.int .i64)) (rowsL (mvF n) n))]) := by
  have hm := call_fro (n - 1) n (by omega)
  have hw : IntKind.i64.wrap ((n : Int) - 1) = ((n - 1 : Nat) : Int) := by rw [wrap_i] <;> omega
  have h1 := da_l n hn (mvF n (n - 1)) (n - 1) 1 (by omega)
  rw [← da_0 n h0 hn] at h1
  generalize rowsL (mvF n) n = hs at *
  generalize mvF n (n - 1) = ms at *
  rw [call_eq pr 117 _ _ Try.f117 fn_117 _ rfl _ ann_117 rfl]
  simp -implicitDefEqProofs only [hw, hm, h1, go_sem, Nat.reduceAdd, Nat.reduceSub, Nat.reduceMul, Nat.reduceMod, Nat.reduceLT, Nat.reduceLeDiff, Nat.reduceEqDiff, Nat.reduceBEq, Nat.reduceDiv, Int.reduceLT, Int.reduceLE, Int.reduceToNat, Int.reduceNeg, Int.reduceEq, ↓reduceIte, reduceCtorEq, ↓reduceDIte]
theorem db_0 (n : Nat) (hn : 0 < n) (h6 : n ≤ 6) (ms : List Int) : loopOf pr 118 0 ⟨[(0, I n), (2, .op 128 0), (3, .op 192 0), (4, I 0)], [(128, .box [.nilS, .nilS]), (512, .arr true false (.int .i64) ms), (192, .box [.nilS, .os (.t 512)])]⟩ =
    loopOf pr 118 0 ⟨[(0, I n), (2, .op 128 0), (3, .op 192 0), (4, I ((1 : Nat) : Int))], [(128, .box [.nilS, .nilS]), (512, .arr true false (.int .i64) ms), (192, .box [.os (.t 1280), .os (.t 512)]), (1280, .arr true true (.slice (.int .i64)) (rowsL (fun _ => mbF n (n - 1)) 1))]⟩ := by
  have h0 : ((0 : Int) < (n : Int)) = True := tr (by omega)
  have hr := call_sam n (by omega) (by omega)
  have hr : callOf pr 123 [I n] [] = some (.os (.t 384), [(384, .arr true false (.int .i64) ((fun _ => mbF n (n - 1)) 0))]) := hr
  have hw : IntKind.i64.wrap (0 + 1) = ((1 : Nat) : Int) := by decide
  rw [show rowsL (fun _ => mbF n (n - 1)) 1 = [(fun _ => mbF n (n - 1)) 0] from rfl]
  generalize (fun _ => mbF n (n - 1)) 0 = xs at *
  rw [loop_eq pr 118 0 _ Try.f118 fn_118 _ rfl _ ann_118 _ rfl]
  simp -implicitDefEqProofs only [h0, hr, hw, go_sem, Nat.reduceAdd, Nat.reduceSub, Nat.reduceMul, Nat.reduceMod, Nat.reduceLT, Nat.reduceLeDiff, Nat.reduceEqDiff, Nat.reduceBEq, Nat.reduceDiv, Int.reduceLT, Int.reduceLE, Int.reduceToNat, Int.reduceNeg, Int.reduceEq, ↓reduceIte, reduceCtorEq, ↓reduceDIte]
theorem db_s (n k : Nat) (hk : k < n) (hn : n ≤ 6) (ms : List Int) : loopOf pr 118 0 ⟨[(0, I n), (2, .op 128 0), (3, .op 192 0), (4, I k)], [(128, .box [.nilS, .nilS]), (512, .arr true false (.int .i64) ms), (192, .box [.os (.t 1280), .os (.t 512)]), (1280, .arr true true (.slice (.int .i64)) (rowsL (fun _ => mbF n (n - 1)) k))]⟩ =
    loopOf pr 118 0 ⟨[(0, I n), (2, .op 128 0), (3, .op 192 0), (4, I ((k + 1 : Nat) : Int))], [(128, .box [.nilS, .nilS]), (512, .arr true false (.int .i64) ms), (192, .box [.os (.t 1280), .os (.t 512)]), (1280, .arr true true (.slice (.int .i64)) (rowsL (fun _ => mbF n (n - 1)) (k + 1)))]⟩ := by
  have hl : (rowsL (fun _ => mbF n (n - 1)) k).length < 1000 := by rw [rowsL_length]; omega
  have hr := call_sam n (by omega) (by omega)
  have hr : callOf pr 123 [I n] [] = some (.os (.t 384), [(384, .arr true false (.int .i64) (mbF n (n - 1)))]) := hr
  have hw : IntKind.i64.wrap ((k : Int) + 1) = ((k + 1 : Nat) : Int) := by rw [wrap_i] <;> omega
  rw [show rowsL (fun _ => mbF n (n - 1)) (k + 1) = rowsL (fun _ => mbF n (n - 1)) k ++ [mbF n (n - 1)] from rowsL_succ (fun _ => mbF n (n - 1)) k]
  generalize rowsL (fun _ => mbF n (n - 1)) k = hs at *
  generalize mbF n (n - 1) = xs at *
  have hr2 : ((hs.length + 1) * 24 ≤ 140737488355328 ∧ hs.length ≤ 9223372036854775806) = True := tr ⟨by omega, by omega⟩
  rw [loop_eq pr 118 0 _ Try.f118 fn_118 _ rfl _ ann_118 _ rfl]
  simp -implicitDefEqProofs only [lt_cast hk, hr, hr2, hw, go_sem, Nat.reduceAdd, Nat.reduceSub, Nat.reduceMul, Nat.reduceMod, Nat.reduceLT, Nat.reduceLeDiff, Nat.reduceEqDiff, Nat.reduceBEq, Nat.reduceDiv, Int.reduceLT, Int.reduceLE, Int.reduceToNat, Int.reduceNeg, Int.reduceEq, ↓reduceIte, reduceCtorEq, ↓reduceDIte]
theorem db_e (n : Nat) (hs : List (List Int)) (ms : List Int) : loopOf pr 118 0 ⟨[(0, I n), (2, .op 128 0), (3, .op 192 0), (4, I n)], [(128, .box [.nilS, .nilS]), (512, .arr true false (.int .i64) ms), (192, .box [.os (.t 1280), .os (.t 512)]), (1280, .arr true true (.slice (.int .i64)) hs)]⟩ =
    some (.exit 0, ⟨[(0, I n), (2, .op 128 0), (3, .op 192 0), (4, I n)], [(128, .box [.nilS, .nilS]), (512, .arr true false (.int .i64) ms), (192, .box [.os (.t 1280), .os (.t 512)]), (1280, .arr true true (.slice (.int .i64)) hs)]⟩) := by
  rw [loop_eq pr 118 0 _ Try.f118 fn_118 _ rfl _ ann_118 _ rfl]
  simp -implicitDefEqProofs only [Int.lt_irrefl, go_sem, Nat.reduceAdd, Nat.reduceSub, Nat.reduceMul, Nat.reduceMod, Nat.reduceLT, Nat.reduceLeDiff, Nat.reduceEqDiff, Nat.reduceBEq, Nat.reduceDiv, Int.reduceLT, Int.reduceLE, Int.reduceToNat, Int.reduceNeg, Int.reduceEq, ↓reduceIte, reduceCtorEq, ↓reduceDIte]
theorem db_l (n : Nat) (hn : n ≤ 6) (ms : List Int) : ∀ (j k : Nat), k + j = n → loopOf pr 118 0 ⟨[(0, I n), (2, .op 128 0), (3, .op 192 0), (4, I k)], [(128, .box [.nilS, .nilS]), (512, .arr true false (.int .i64) ms), (192, .box [.os (.t 1280), .os (.t 512)]), (1280, .arr true true (.slice (.int .i64)) (rowsL (fun _ => mbF n (n - 1)) k))]⟩ =
    some (.exit 0, ⟨[(0, I n), (2, .op 128 0), (3, .op 192 0), (4, I n)], [(128, .box [.nilS, .nilS]), (512, .arr true false (.int .i64) ms), (192, .box [.os (.t 1280), .os (.t 512)]), (1280, .arr true true (.slice (.int .i64)) (rowsL (fun _ => mbF n (n - 1)) n))]⟩)
  | 0, k, h => by obtain rfl : k = n := by omega
                  exact db_e k _ ms
  | j + 1, k, h => by rw [db_s n k (by omega) hn ms]; exact db_l n hn ms j (k + 1) (by omega)
theorem db (n : Nat) (h0 : 0 < n) (hn : n ≤ 6) : callOf pr 118 [I n] [] = some (.agg [.os (.t 1280), .os (.t 512)], [(512, .arr true false (.int .i64) (mvF n (n - 1))), (1280, .arr true true (.slice (.int .i64)) (rowsL (fun _ => mbF n (n - 1)) n))]) := by
  have hm := call_fro (n - 1) n (by omega)
  have hw : IntKind.i64.wrap ((n : Int) - 1) = ((n - 1 : Nat) : Int) := by rw [wrap_i] <;> omega
  have h1 := db_l n hn (mvF n (n - 1)) (n - 1) 1 (by omega)
  rw [← db_0 n h0 hn] at h1
  generalize rowsL (fun _ => mbF n (n - 1)) n = hs at *
  generalize mvF n (n - 1) = ms at *
  rw [call_eq pr 118 _ _ Try.f118 fn_118 _ rfl _ ann_118 rfl]
  simp -implicitDefEqProofs only [hw, hm, h1, go_sem, Nat.reduceAdd, Nat.reduceSub, Nat.reduceMul, Nat.reduceMod, Nat.reduceLT, Nat.reduceLeDiff, Nat.reduceEqDiff, Nat.reduceBEq, Nat.reduceDiv, Int.reduceLT, Int.reduceLE, Int.reduceToNat, Int.reduceNeg, Int.reduceEq, ↓reduceIte, reduceCtorEq, ↓reduceDIte]
theorem dc_0 (n : Nat) (hn : 0 < n) (h6 : n ≤ 6) (ms : List Int) : loopOf pr 119 0 ⟨[(0, I n), (2, .op 128 0), (3, .op 192 0), (4, I 0)], [(128, .box [.nilS, .nilS]), (384, .arr true false (.int .i64) ms), (192, .box [.nilS, .os (.t 384)])]⟩ =
    loopOf pr 119 0 ⟨[(0, I n), (2, .op 128 0), (3, .op 192 0), (4, I ((1 : Nat) : Int))], [(128, .box [.nilS, .nilS]), (384, .arr true false (.int .i64) ms), (192, .box [.os (.t 1216), .os (.t 384)]), (1216, .arr true true (.slice (.int .i64)) (rowsL (mbF n) 1))]⟩ := by
  have h0 : ((0 : Int) < (n : Int)) = True := tr (by omega)
  have hr := call_bac 0 n (by omega)
  have hr : callOf pr 130 [I 0, I n] [] = some (.os (.t 448), [(448, .arr true false (.int .i64) ((mbF n) 0))]) := hr
  have hw : IntKind.i64.wrap (0 + 1) = ((1 : Nat) : Int) := by decide
  rw [show rowsL (mbF n) 1 = [(mbF n) 0] from rfl]
  generalize (mbF n) 0 = xs at *
  rw [loop_eq pr 119 0 _ Try.f119 fn_119 _ rfl _ ann_119 _ rfl]
  simp -implicitDefEqProofs only [h0, hr, hw, go_sem, Nat.reduceAdd, Nat.reduceSub, Nat.reduceMul, Nat.reduceMod, Nat.reduceLT, Nat.reduceLeDiff, Nat.reduceEqDiff, Nat.reduceBEq, Nat.reduceDiv, Int.reduceLT, Int.reduceLE, Int.reduceToNat, Int.reduceNeg, Int.reduceEq, ↓reduceIte, reduceCtorEq, ↓reduceDIte]
theorem dc_s (n k : Nat) (hk : k < n) (hn : n ≤ 6) (ms : List Int) : loopOf pr 119 0 ⟨[(0, I n), (2, .op 128 0), (3, .op 192 0), (4, I k)], [(128, .box [.nilS, .nilS]), (384, .arr true false (.int .i64) ms), (192, .box [.os (.t 1216), .os (.t 384)]), (1216, .arr true true (.slice (.int .i64)) (rowsL (mbF n) k))]⟩ =
    loopOf pr 119 0 ⟨[(0, I n), (2, .op 128 0), (3, .op 192 0), (4, I ((k + 1 : Nat) : Int))], [(128, .box [.nilS, .nilS]), (384, .arr true false (.int .i64) ms), (192, .box [.os (.t 1216), .os (.t 384)]), (1216, .arr true true (.slice (.int .i64)) (rowsL (mbF n) (k + 1)))]⟩ := by
  have hl : (rowsL (mbF n) k).length < 1000 := by rw [rowsL_length]; omega
  have hr := call_bac k n (by omega)
  have hr : callOf pr 130 [I k, I n] [] = some (.os (.t 448), [(448, .arr true false (.int .i64) (mbF n k))]) := hr
  have hw : IntKind.i64.wrap ((k : Int) + 1) = ((k + 1 : Nat) : Int) := by rw [wrap_i] <;> omega
  rw [show rowsL (mbF n) (k + 1) = rowsL (mbF n) k ++ [mbF n k] from rowsL_succ (mbF n) k]
  generalize rowsL (mbF n) k = hs at *
  generalize mbF n k = xs at *
  have hr2 : ((hs.length + 1) * 24 ≤ 140737488355328 ∧ hs.length ≤ 9223372036854775806) = True := tr ⟨by omega, by omega⟩
  rw [loop_eq pr 119 0 _ Try.f119 fn_119 _ rfl _ ann_119 _ rfl]
  simp -implicitDefEqProofs only [lt_cast hk, hr, hr2, hw, go_sem, Nat.reduceAdd, Nat.reduceSub, Nat.reduceMul, Nat.reduceMod, Nat.reduceLT, Nat.reduceLeDiff, Nat.reduceEqDiff, Nat.reduceBEq, Nat.reduceDiv, Int.reduceLT, Int.reduceLE, Int.reduceToNat, Int.reduceNeg, Int.reduceEq, ↓reduceIte, reduceCtorEq, ↓reduceDIte]
theorem dc_e (n : Nat) (hs : List (List Int)) (ms : List Int) : loopOf pr 119 0 ⟨[(0, I n), (2, .op 128 0), (3, .op 192 0), (4, I n)], [(128, .box [.nilS, .nilS]), (384, .arr true false (.int .i64) ms), (192, .box [.os (.t 1216), .os (.t 384)]), (1216, .arr true true (.slice (.int .i64)) hs)]⟩ =
    some (.exit 0, ⟨[(0, I n), (2, .op 128 0), (3, .op 192 0), (4, I n)], [(128, .box [.nilS, .nilS]), (384, .arr true false (.int .i64) ms), (192, .box [.os (.t 1216), .os (.t 384)]), (1216, .arr true true (.slice (.int .i64)) hs)]⟩) := by
  rw [loop_eq pr 119 0 _ Try.f119 fn_119 _ rfl _ ann_119 _ rfl]
  simp -implicitDefEqProofs only [Int.lt_irrefl, go_sem, Nat.reduceAdd, Nat.reduceSub, Nat.reduceMul, Nat.reduceMod, Nat.reduceLT, Nat.reduceLeDiff, Nat.reduceEqDiff, Nat.reduceBEq, Nat.reduceDiv, Int.reduceLT, Int.reduceLE, Int.reduceToNat, Int.reduceNeg, Int.reduceEq, ↓reduceIte, reduceCtorEq, ↓reduceDIte]
theorem dc_l (n : Nat) (hn : n ≤ 6) (ms : List Int) : ∀ (j k : Nat), k + j = n → loopOf pr 119 0 ⟨[(0, I n), (2, .op 128 0), (3, .op 192 0), (4, I k)], [(128, .box [.nilS, .nilS]), (384, .arr true false (.int .i64) ms), (192, .box [.os (.t 1216), .os (.t 384)]), (1216, .arr true true (.slice (.int .i64)) (rowsL (mbF n) k))]⟩ =
    some (.exit 0, ⟨[(0, I n), (2, .op 128 0), (3, .op 192 0), (4, I n)], [(128, .box [.nilS, .nilS]), (384, .arr true false (.int .i64) ms), (192, .box [.os (.t 1216), .os (.t 384)]), (1216, .arr true true (.slice (.int .i64)) (rowsL (mbF n) n))]⟩)
  | 0, k, h => by obtain rfl : k = n := by omega
                  exact dc_e k _ ms
  | j + 1, k, h => by rw [dc_s n k (by omega) hn ms]; exact dc_l n hn ms j (k + 1) (by omega)
theorem dc (n : Nat) (h0 : 0 < n) (hn : n ≤ 6) : callOf pr 119 [I n] [] = some (.agg [.os (.t 1216), .os (.t 384)], [(384, .arr true false (.int .i64) (mbF n (n - 1))), (1216, .arr true true (.slice (.int .i64)) (rowsL (mbF n) n))]) := by
  have hm := call_sam n (by omega) (by omega)
  have hw : IntKind.i64.wrap ((n : Int) - 1) = ((n - 1 : Nat) : Int) := by rw [wrap_i] <;> omega
  have h1 := dc_l n hn (mbF n (n - 1)) (n - 1) 1 (by omega)
  rw [← dc_0 n h0 hn] at h1
  generalize rowsL (mbF n) n = hs at *
  generalize mbF n (n - 1) = ms at *
  rw [call_eq pr 119 _ _ Try.f119 fn_119 _ rfl _ ann_119 rfl]
  simp -implicitDefEqProofs only [hw, hm, h1, go_sem, Nat.reduceAdd, Nat.reduceSub, Nat.reduceMul, Nat.reduceMod, Nat.reduceLT, Nat.reduceLeDiff, Nat.reduceEqDiff, Nat.reduceBEq, Nat.reduceDiv, Int.reduceLT, Int.reduceLE, Int.reduceToNat, Int.reduceNeg, Int.reduceEq, ↓reduceIte, reduceCtorEq, ↓reduceDIte]
abbrev TH (hs : List (List Int)) : Heap := [(128, .box [.nilS, .nilS]), (192, .box [.os (.t 2112), .nilS]), (2112, .arr true true (.slice (.int .i64)) hs)]
theorem tr4_0 : loopOf pr 120 0 ⟨[(0, I 4), (2, .op 128 0), (3, .op 192 0), (4, I 0)], [(128, .box [.nilS, .nilS]), (192, .box [.nilS, .nilS])]⟩ = loopOf pr 120 0 ⟨[(0, I 4), (2, .op 128 0), (3, .op 192 0), (4, I 1)], TH [[0, 1, 2, 3]]⟩ := by
  rw [loop_eq pr 120 0 _ Try.f120 fn_120 _ rfl _ ann_120 _ rfl]
  simp -implicitDefEqProofs only [show IntKind.i64.wrap (0 + 1) = 1 by decide, show bitsOf BinOp.xor IntKind.i64 0 1 = 1 by decide, show IntKind.i64.wrap (2 - IntKind.i64.wrap (IntKind.i64.wrap (Int.tdiv 0 2) * 2)) = 2 by decide, show IntKind.i64.wrap (3 - IntKind.i64.wrap (IntKind.i64.wrap (Int.tdiv 0 2) * 2)) = 3 by decide, go_sem, Nat.reduceAdd, Nat.reduceSub, Nat.reduceMul, Nat.reduceMod, Nat.reduceLT, Nat.reduceLeDiff, Nat.reduceEqDiff, Nat.reduceBEq, Nat.reduceDiv, Int.reduceLT, Int.reduceLE, Int.reduceToNat, Int.reduceNeg, Int.reduceEq, ↓reduceIte, reduceCtorEq, ↓reduceDIte]
theorem tr2_0 : loopOf pr 120 0 ⟨[(0, I 2), (2, .op 128 0), (3, .op 192 0), (4, I 0)], [(128, .box [.nilS, .nilS]), (192, .box [.nilS, .nilS])]⟩ = loopOf pr 120 0 ⟨[(0, I 2), (2, .op 128 0), (3, .op 192 0), (4, I 1)], TH [[0, 1]]⟩ := by
  rw [loop_eq pr 120 0 _ Try.f120 fn_120 _ rfl _ ann_120 _ rfl]
  simp -implicitDefEqProofs only [show IntKind.i64.wrap (0 + 1) = 1 by decide, show bitsOf BinOp.xor IntKind.i64 0 1 = 1 by decide, go_sem, Nat.reduceAdd, Nat.reduceSub, Nat.reduceMul, Nat.reduceMod, Nat.reduceLT, Nat.reduceLeDiff, Nat.reduceEqDiff, Nat.reduceBEq, Nat.reduceDiv, Int.reduceLT, Int.reduceLE, Int.reduceToNat, Int.reduceNeg, Int.reduceEq, ↓reduceIte, reduceCtorEq, ↓reduceDIte]
theorem tr4_1 : loopOf pr 120 0 ⟨[(0, I 4), (2, .op 128 0), (3, .op 192 0), (4, I 1)], TH [[0, 1, 2, 3]]⟩ = loopOf pr 120 0 ⟨[(0, I 4), (2, .op 128 0), (3, .op 192 0), (4, I 2)], TH [[0, 1, 2, 3], [1, 0, 2, 3]]⟩ := by
  rw [loop_eq pr 120 0 _ Try.f120 fn_120 _ rfl _ ann_120 _ rfl]
  simp -implicitDefEqProofs only [show IntKind.i64.wrap (1 + 1) = 2 by decide, show bitsOf BinOp.xor IntKind.i64 1 1 = 0 by decide, show IntKind.i64.wrap (2 - IntKind.i64.wrap (IntKind.i64.wrap (Int.tdiv 1 2) * 2)) = 2 by decide, show IntKind.i64.wrap (3 - IntKind.i64.wrap (IntKind.i64.wrap (Int.tdiv 1 2) * 2)) = 3 by decide, go_sem, Nat.reduceAdd, Nat.reduceSub, Nat.reduceMul, Nat.reduceMod, Nat.reduceLT, Nat.reduceLeDiff, Nat.reduceEqDiff, Nat.reduceBEq, Nat.reduceDiv, Int.reduceLT, Int.reduceLE, Int.reduceToNat, Int.reduceNeg, Int.reduceEq, ↓reduceIte, reduceCtorEq, ↓reduceDIte]
theorem tr4_2 : loopOf pr 120 0 ⟨[(0, I 4), (2, .op 128 0), (3, .op 192 0), (4, I 2)], TH [[0, 1, 2, 3], [1, 0, 2, 3]]⟩ = loopOf pr 120 0 ⟨[(0, I 4), (2, .op 128 0), (3, .op 192 0), (4, I 3)], TH [[0, 1, 2, 3], [1, 0, 2, 3], [2, 3, 0, 1]]⟩ := by
  rw [loop_eq pr 120 0 _ Try.f120 fn_120 _ rfl _ ann_120 _ rfl]
  simp -implicitDefEqProofs only [show IntKind.i64.wrap (2 + 1) = 3 by decide, show bitsOf BinOp.xor IntKind.i64 2 1 = 3 by decide, show IntKind.i64.wrap (2 - IntKind.i64.wrap (IntKind.i64.wrap (Int.tdiv 2 2) * 2)) = 0 by decide, show IntKind.i64.wrap (3 - IntKind.i64.wrap (IntKind.i64.wrap (Int.tdiv 2 2) * 2)) = 1 by decide, go_sem, Nat.reduceAdd, Nat.reduceSub, Nat.reduceMul, Nat.reduceMod, Nat.reduceLT, Nat.reduceLeDiff, Nat.reduceEqDiff, Nat.reduceBEq, Nat.reduceDiv, Int.reduceLT, Int.reduceLE, Int.reduceToNat, Int.reduceNeg, Int.reduceEq, ↓reduceIte, reduceCtorEq, ↓reduceDIte]
theorem tr4_3 : loopOf pr 120 0 ⟨[(0, I 4), (2, .op 128 0), (3, .op 192 0), (4, I 3)], TH [[0, 1, 2, 3], [1, 0, 2, 3], [2, 3, 0, 1]]⟩ = loopOf pr 120 0 ⟨[(0, I 4), (2, .op 128 0), (3, .op 192 0), (4, I 4)], TH [[0, 1, 2, 3], [1, 0, 2, 3], [2, 3, 0, 1], [3, 2, 0, 1]]⟩ := by
  rw [loop_eq pr 120 0 _ Try.f120 fn_120 _ rfl _ ann_120 _ rfl]
  simp -implicitDefEqProofs only [show IntKind.i64.wrap (3 + 1) = 4 by decide, show bitsOf BinOp.xor IntKind.i64 3 1 = 2 by decide, show IntKind.i64.wrap (2 - IntKind.i64.wrap (IntKind.i64.wrap (Int.tdiv 3 2) * 2)) = 0 by decide, show IntKind.i64.wrap (3 - IntKind.i64.wrap (IntKind.i64.wrap (Int.tdiv 3 2) * 2)) = 1 by decide, go_sem, Nat.reduceAdd, Nat.reduceSub, Nat.reduceMul, Nat.reduceMod, Nat.reduceLT, Nat.reduceLeDiff, Nat.reduceEqDiff, Nat.reduceBEq, Nat.reduceDiv, Int.reduceLT, Int.reduceLE, Int.reduceToNat, Int.reduceNeg, Int.reduceEq, ↓reduceIte, reduceCtorEq, ↓reduceDIte]
theorem tr2_1 : loopOf pr 120 0 ⟨[(0, I 2), (2, .op 128 0), (3, .op 192 0), (4, I 1)], TH [[0, 1]]⟩ = loopOf pr 120 0 ⟨[(0, I 2), (2, .op 128 0), (3, .op 192 0), (4, I 2)], TH [[0, 1], [1, 0]]⟩ := by
  rw [loop_eq pr 120 0 _ Try.f120 fn_120 _ rfl _ ann_120 _ rfl]
  simp -implicitDefEqProofs only [show IntKind.i64.wrap (1 + 1) = 2 by decide, show bitsOf BinOp.xor IntKind.i64 1 1 = 0 by decide, show IntKind.i64.wrap (2 - IntKind.i64.wrap (IntKind.i64.wrap (Int.tdiv 1 2) * 2)) = 2 by decide, show IntKind.i64.wrap (3 - IntKind.i64.wrap (IntKind.i64.wrap (Int.tdiv 1 2) * 2)) = 3 by decide, go_sem, Nat.reduceAdd, Nat.reduceSub, Nat.reduceMul, Nat.reduceMod, Nat.reduceLT, Nat.reduceLeDiff, Nat.reduceEqDiff, Nat.reduceBEq, Nat.reduceDiv, Int.reduceLT, Int.reduceLE, Int.reduceToNat, Int.reduceNeg, Int.reduceEq, ↓reduceIte, reduceCtorEq, ↓reduceDIte]
theorem tre4 : loopOf pr 120 0 ⟨[(0, I 4), (2, .op 128 0), (3, .op 192 0), (4, I 4)], TH [[0, 1, 2, 3], [1, 0, 2, 3], [2, 3, 0, 1], [3, 2, 0, 1]]⟩ = some (.exit 0, ⟨[(0, I 4), (2, .op 128 0), (3, .op 192 0), (4, I 4)], TH [[0, 1, 2, 3], [1, 0, 2, 3], [2, 3, 0, 1], [3, 2, 0, 1]]⟩) := by
  rw [loop_eq pr 120 0 _ Try.f120 fn_120 _ rfl _ ann_120 _ rfl]
  simp -implicitDefEqProofs only [Int.lt_irrefl, go_sem, Nat.reduceAdd, Nat.reduceSub, Nat.reduceMul, Nat.reduceMod, Nat.reduceLT, Nat.reduceLeDiff, Nat.reduceEqDiff, Nat.reduceBEq, Nat.reduceDiv, Int.reduceLT, Int.reduceLE, Int.reduceToNat, Int.reduceNeg, Int.reduceEq, ↓reduceIte, reduceCtorEq, ↓reduceDIte]
theorem dt4 : callOf pr 120 [I 4] [] = some (.agg [.os (.t 2112), .os (.t 2624)], [(2112, .arr true true (.slice (.int .i64)) [[0, 1, 2, 3], [1, 0, 2, 3], [2, 3, 0, 1], [3, 2, 0, 1]]), (2624, .arr true false (.int .i64) [3, 2, 0, 1])]) := by
  have h := tr4_0
  rw [tr4_1, tr4_2, tr4_3, tre4] at h
  have ho := call_own [3, 2, 0, 1] (by decide)
  rw [call_eq pr 120 _ _ Try.f120 fn_120 _ rfl _ ann_120 rfl]
  simp -implicitDefEqProofs only [h, ho, show IntKind.i64.wrap (4 - 1) = 3 by decide, show ((4 : Nat) : Int) = 4 from rfl, show ∀ z : List Int, List.getD [[0, 1, 2, 3], [1, 0, 2, 3], [2, 3, 0, 1], [3, 2, 0, 1]] 3 z = [3, 2, 0, 1] from fun _ => rfl, go_sem, Nat.reduceAdd, Nat.reduceSub, Nat.reduceMul, Nat.reduceMod, Nat.reduceLT, Nat.reduceLeDiff, Nat.reduceEqDiff, Nat.reduceBEq, Nat.reduceDiv, Int.reduceLT, Int.reduceLE, Int.reduceToNat, Int.reduceNeg, Int.reduceEq, ↓reduceIte, reduceCtorEq, ↓reduceDIte]
theorem tre2 : loopOf pr 120 0 ⟨[(0, I 2), (2, .op 128 0), (3, .op 192 0), (4, I 2)], TH [[0, 1], [1, 0]]⟩ = some (.exit 0, ⟨[(0, I 2), (2, .op 128 0), (3, .op 192 0), (4, I 2)], TH [[0, 1], [1, 0]]⟩) := by
  rw [loop_eq pr 120 0 _ Try.f120 fn_120 _ rfl _ ann_120 _ rfl]
  simp -implicitDefEqProofs only [Int.lt_irrefl, go_sem, Nat.reduceAdd, Nat.reduceSub, Nat.reduceMul, Nat.reduceMod, Nat.reduceLT, Nat.reduceLeDiff, Nat.reduceEqDiff, Nat.reduceBEq, Nat.reduceDiv, Int.reduceLT, Int.reduceLE, Int.reduceToNat, Int.reduceNeg, Int.reduceEq, ↓reduceIte, reduceCtorEq, ↓reduceDIte]
theorem dt2 : callOf pr 120 [I 2] [] = some (.agg [.os (.t 2112), .os (.t 2624)], [(2112, .arr true true (.slice (.int .i64)) [[0, 1], [1, 0]]), (2624, .arr true false (.int .i64) [1, 0])]) := by
  have h := tr2_0
  rw [tr2_1, tre2] at h
  have ho := call_own [1, 0] (by decide)
  rw [call_eq pr 120 _ _ Try.f120 fn_120 _ rfl _ ann_120 rfl]
  simp -implicitDefEqProofs only [h, ho, show IntKind.i64.wrap (2 - 1) = 1 by decide, show ((2 : Nat) : Int) = 2 from rfl, show ∀ z : List Int, List.getD [[0, 1], [1, 0]] 1 z = [1, 0] from fun _ => rfl, go_sem, Nat.reduceAdd, Nat.reduceSub, Nat.reduceMul, Nat.reduceMod, Nat.reduceLT, Nat.reduceLeDiff, Nat.reduceEqDiff, Nat.reduceBEq, Nat.reduceDiv, Int.reduceLT, Int.reduceLE, Int.reduceToNat, Int.reduceNeg, Int.reduceEq, ↓reduceIte, reduceCtorEq, ↓reduceDIte]
abbrev SH (hs : List (List Int)) : Heap := [(256, .box [.nilS, .nilS]), (320, .box [.os (.t 1600), .nilS]), (1600, .arr true true (.slice (.int .i64)) hs)]
abbrev SeT (n : Nat) (s : Int) (k : Int) : Slots := [(0, I n), (1, I s), (4, .op 256 0), (5, .op 320 0), (6, I k)]
theorem see_0 (n : Nat) (h0 : 0 < n) (hn : n ≤ 6) (s s' : Int) (ys : List Int) (h : callOf pr 122 [I s, I n] [] = some (.tuple [.os (.t 704), I s'], [(704, .arr true false (.int .i64) ys)])) : loopOf pr 121 0 ⟨SeT n s 0, [(256, .box [.nilS, .nilS]), (320, .box [.nilS, .nilS])]⟩ = loopOf pr 121 0 ⟨SeT n s' ((1 : Nat) : Int), SH [ys]⟩ := by
  have h1 : ((0 : Int) < (n : Int)) = True := tr (by omega)
  have hw : IntKind.i64.wrap (0 + 1) = ((1 : Nat) : Int) := by decide
  rw [loop_eq pr 121 0 _ Try.f121 fn_121 _ rfl _ ann_121 _ rfl]
  simp -implicitDefEqProofs only [hw, h, h1, go_sem, Nat.reduceAdd, Nat.reduceSub, Nat.reduceMul, Nat.reduceMod, Nat.reduceLT, Nat.reduceLeDiff, Nat.reduceEqDiff, Nat.reduceBEq, Nat.reduceDiv, Int.reduceLT, Int.reduceLE, Int.reduceToNat, Int.reduceNeg, Int.reduceEq, ↓reduceIte, reduceCtorEq, ↓reduceDIte]
theorem see_s (n k : Nat) (hk : k < n) (hn : n ≤ 6) (s s' : Int) (ys : List Int) (hs : List (List Int)) (hl : hs.length < 1000) (h : callOf pr 122 [I s, I n] [] = some (.tuple [.os (.t 704), I s'], [(704, .arr true false (.int .i64) ys)])) : loopOf pr 121 0 ⟨SeT n s k, SH hs⟩ = loopOf pr 121 0 ⟨SeT n s' ((k + 1 : Nat) : Int), SH (hs ++ [ys])⟩ := by
  have hr2 : ((hs.length + 1) * 24 ≤ 140737488355328 ∧ hs.length ≤ 9223372036854775806) = True := tr ⟨by omega, by omega⟩
  have hw : IntKind.i64.wrap ((k : Int) + 1) = ((k + 1 : Nat) : Int) := by rw [wrap_i] <;> omega
  rw [loop_eq pr 121 0 _ Try.f121 fn_121 _ rfl _ ann_121 _ rfl]
  simp -implicitDefEqProofs only [hw, h, lt_cast hk, hr2, go_sem, Nat.reduceAdd, Nat.reduceSub, Nat.reduceMul, Nat.reduceMod, Nat.reduceLT, Nat.reduceLeDiff, Nat.reduceEqDiff, Nat.reduceBEq, Nat.reduceDiv, Int.reduceLT, Int.reduceLE, Int.reduceToNat, Int.reduceNeg, Int.reduceEq, ↓reduceIte, reduceCtorEq, ↓reduceDIte]
theorem see_e (n : Nat) (s : Int) (hs : List (List Int)) : loopOf pr 121 0 ⟨SeT n s n, SH hs⟩ = some (.exit 0, ⟨SeT n s n, SH hs⟩) := by
  rw [loop_eq pr 121 0 _ Try.f121 fn_121 _ rfl _ ann_121 _ rfl]
  simp -implicitDefEqProofs only [Int.lt_irrefl, go_sem, Nat.reduceAdd, Nat.reduceSub, Nat.reduceMul, Nat.reduceMod, Nat.reduceLT, Nat.reduceLeDiff, Nat.reduceEqDiff, Nat.reduceBEq, Nat.reduceDiv, Int.reduceLT, Int.reduceLE, Int.reduceToNat, Int.reduceNeg, Int.reduceEq, ↓reduceIte, reduceCtorEq, ↓reduceDIte]
theorem see_l (n : Nat) (h0 : 0 < n) (hn : n ≤ 6) : ∀ (j k : Nat) (s : Int) (hs : List (List Int)), k + j = n → 0 ≤ s ∧ s ≤ 2147483647 → hs.length = k → (∀ l ∈ hs, List.Perm l (ascL n)) →
    ∃ s' ys, (0 ≤ s' ∧ s' ≤ 2147483647) ∧ ys.length = n ∧ (∀ l ∈ ys, List.Perm l (ascL n)) ∧ loopOf pr 121 0 ⟨SeT n s k, SH hs⟩ = some (.exit 0, ⟨SeT n s' n, SH ys⟩)
  | 0, k, s, hs, hj, hr, hl, hp => by
    obtain rfl : k = n := by omega
    exact ⟨s, hs, hr, hl, hp, see_e k s hs⟩
  | j + 1, k, s, hs, hj, hr, hl, hp => by
    obtain ⟨s1, ys, q1, q2, q3⟩ := call_ord s hr n h0 (by omega)
    obtain ⟨s', zs, r1, r2, r3, r4⟩ := see_l n h0 hn j (k + 1) s1 (hs ++ [ys]) (by omega) q1 (by simp; omega) (by
      intro l hm
      rcases List.mem_append.1 hm with hm | hm
      · exact hp l hm
      · rw [List.mem_singleton.1 hm]; exact q2)
    exact ⟨s', zs, r1, r2, r3, by rw [see_s n k (by omega) hn s s1 ys hs (by omega) q3]; exact r4⟩
theorem dseed (n : Nat) (h0 : 0 < n) (hn : n ≤ 6) (s : Int) (hs : 0 ≤ s ∧ s ≤ 2147483647) : ∃ (hit : List (List Int)) (ms : List Int), hit.length = n ∧ (∀ l ∈ hit, List.Perm l (ascL n)) ∧ List.Perm ms (ascL n) ∧ callOf pr 121 [I n, I s] [] = some (.agg [.os (.t 1600), .os (.t 1984)], [(1600, .arr true true (.slice (.int .i64)) hit), (1984, .arr true false (.int .i64) ms)]) := by
  obtain ⟨s1, ys, q1, q2, q3⟩ := call_ord s hs n h0 (by omega)
  obtain ⟨s', zs, r1, r2, r3, r4⟩ := see_l n h0 hn (n - 1) 1 s1 [ys] (by omega) q1 rfl (by intro l hm; rw [List.mem_singleton.1 hm]; exact q2)
  rw [← see_0 n h0 hn s s1 ys q3] at r4
  obtain ⟨s2, ms, t1, t2, t3⟩ := call_ord s' r1 n h0 (by omega)
  refine ⟨zs, ms, r2, r3, t2, ?_⟩
  rw [call_eq pr 121 _ _ Try.f121 fn_121 _ rfl _ ann_121 rfl]
  simp -implicitDefEqProofs only [r4, t3, go_sem, Nat.reduceAdd, Nat.reduceSub, Nat.reduceMul, Nat.reduceMod, Nat.reduceLT, Nat.reduceLeDiff, Nat.reduceEqDiff, Nat.reduceBEq, Nat.reduceDiv, Int.reduceLT, Int.reduceLE, Int.reduceToNat, Int.reduceNeg, Int.reduceEq, ↓reduceIte, reduceCtorEq, ↓reduceDIte]
theorem order_perm {l : List Int} {n : Nat} (h : List.Perm l (ascL n)) : orderB l n = true := by
  rw [order_eq]
  simp only [sorderB, Bool.and_eq_true, decide_eq_true_eq, ordC_iff]
  refine ⟨⟨fun x hx => ?_, ?_, fun _ _ _ hy => by cases hy⟩, by rw [h.length_eq, ascL_length]⟩
  · have := h.mem_iff.1 hx
    simp only [ascL, List.mem_map, List.mem_range] at this
    obtain ⟨k, hk, rfl⟩ := this
    omega
  · have hn : (ascL n).Pairwise (· ≠ ·) := by
      simp only [ascL, List.pairwise_map]
      exact List.pairwise_lt_range.imp fun {a b} h e => by omega
    exact (h.symm.pairwise_iff (fun {a b} h => Ne.symm h)).1 hn
theorem validP_iff {hit : List (List Int)} {miss : List Int} : validP hit miss = true ↔ (1 ≤ miss.length ∧ miss.length ≤ 6 ∧ hit.length = miss.length) ∧ orderB miss miss.length = true ∧ ∀ l ∈ hit, orderB l miss.length = true := by
  simp only [validP, Bool.and_eq_true, decide_eq_true_eq, List.all_eq_true]
theorem valid_perm {n : Nat} (hn : 1 ≤ n ∧ n ≤ 6) {hit : List (List Int)} {ms : List Int} (hl : hit.length = n) (hp : ∀ l ∈ hit, List.Perm l (ascL n)) (hm : List.Perm ms (ascL n)) : validP hit ms = true := by
  have hml : ms.length = n := by rw [hm.length_eq, ascL_length]
  rw [validP_iff, hml]
  exact ⟨⟨hn.1, hn.2, hl⟩, order_perm hm, fun l h => order_perm (hp l h)⟩
/-- One row is another order. -/
theorem valid_set {hit : List (List Int)} {ms : List Int} (h : validP hit ms = true) (k : Nat) {l : List Int} (hl : orderB l ms.length = true) : validP (hit.set k l) ms = true := by
  rw [validP_iff] at h ⊢
  refine ⟨⟨h.1.1, h.1.2.1, by rw [List.length_set]; exact h.1.2.2⟩, h.2.1, fun x hx => ?_⟩
  rcases List.mem_or_eq_of_mem_set hx with hx | rfl
  · exact h.2.2 x hx
  · exact hl
theorem valid_miss {hit : List (List Int)} {ms ys : List Int} (h : validP hit ms = true) (hy : orderB ys ms.length = true) : validP hit ys = true := by
  have hl := (order_bound hy).1
  rw [validP_iff] at h ⊢
  rw [hl]
  exact ⟨h.1, hy, h.2.2⟩
def validS2 (hit : List (List Int)) (miss : List Int) : Bool := decide (1 ≤ miss.length ∧ miss.length ≤ 6 ∧ hit.length = miss.length) && (sorderB miss miss.length && hit.all fun l => sorderB l miss.length)
theorem validS2_eq (hit : List (List Int)) (miss : List Int) : validP hit miss = validS2 hit miss := by simp only [validP, validS2, order_eq]
theorem val0a : ∀ n : Fin 6, validS2 (rowsL (mvF (n.1 + 1)) (n.1 + 1)) (mvF (n.1 + 1) n.1) = true := by
  decide +kernel
theorem vala {n : Nat} (hn : 1 ≤ n ∧ n ≤ 6) : validP (rowsL (mvF n) n) (mvF n (n - 1)) = true := by
  have := val0a ⟨n - 1, by omega⟩
  rw [validS2_eq]
  simp only [Nat.sub_add_cancel hn.1] at this
  exact this
theorem val0b : ∀ n : Fin 6, validS2 (rowsL (fun _ => mbF (n.1 + 1) n.1) (n.1 + 1)) (mvF (n.1 + 1) n.1) = true := by
  decide +kernel
theorem valb {n : Nat} (hn : 1 ≤ n ∧ n ≤ 6) : validP (rowsL (fun _ => mbF n (n - 1)) n) (mvF n (n - 1)) = true := by
  have := val0b ⟨n - 1, by omega⟩
  rw [validS2_eq]
  simp only [Nat.sub_add_cancel hn.1] at this
  exact this
theorem val0c : ∀ n : Fin 6, validS2 (rowsL (mbF (n.1 + 1)) (n.1 + 1)) (mbF (n.1 + 1) n.1) = true := by
  decide +kernel
theorem valc {n : Nat} (hn : 1 ≤ n ∧ n ≤ 6) : validP (rowsL (mbF n) n) (mbF n (n - 1)) = true := by
  have := val0c ⟨n - 1, by omega⟩
  rw [validS2_eq]
  simp only [Nat.sub_add_cancel hn.1] at this
  exact this
theorem val4 : validP [[0, 1, 2, 3], [1, 0, 2, 3], [2, 3, 0, 1], [3, 2, 0, 1]] [3, 2, 0, 1] = true := by
  rw [validS2_eq]; decide +kernel
theorem val2 : validP [[0, 1], [1, 0]] [1, 0] = true := by
  rw [validS2_eq]; decide +kernel
theorem sam0 : ∀ n : Fin 6, sorderB (mbF (n.1 + 1) n.1) (n.1 + 1) = true := by
  decide +kernel
theorem sam_order {n : Nat} (hn : 1 ≤ n ∧ n ≤ 6) : orderB (mbF n (n - 1)) n = true := by
  have := sam0 ⟨n - 1, by omega⟩
  rw [order_eq]
  simp only [Nat.sub_add_cancel hn.1] at this
  exact this
theorem mvF_len2 {n : Nat} (hn : 1 ≤ n ∧ n ≤ 6) : (mvF n (n - 1)).length = n := mvF_len (by omega) hn.2
/-- A draw of many. -/
theorem call_pickL (bs : List Int) (hb : okBy bs) (at_ : Nat) (ha : at_ ≤ 900000) (seed : Int) (m : Int) (hm : 200 < m ∧ m ≤ 60000) : ∃ (v : Int) (at' : Nat) (seed' : Int), (0 ≤ v ∧ v < m) ∧ at' ≤ at_ + 2 ∧ callOf pr 61 [.op 1000000 0, I m] (SRC bs at_ seed) = some (I v, SRC bs at' seed') := by
  obtain ⟨v, s1, hv, hn⟩ := call_next bs hb at_ (by omega) seed
  obtain ⟨v2, s2, hv2, hn2⟩ := call_next bs hb (at_ + 1) (by omega) s1
  have q1 : (m ≤ 1) = False := fa (by omega)
  have q2 : (200 < m) = True := tr hm.1
  have q3 : (m = 0) = False := fa (by omega)
  have hw1 : IntKind.i64.wrap (v * 256) = v * 256 := by rw [wrap_i] <;> omega
  have hw2 : IntKind.i64.wrap (v * 256 + v2) = v * 256 + v2 := by rw [wrap_i] <;> omega
  have ht : (v * 256 + v2).tmod m = (v * 256 + v2) % m := Int.tmod_eq_emod_of_nonneg (by omega)
  have r1 := Int.emod_nonneg (v * 256 + v2) (show m ≠ 0 by omega)
  have r2 := Int.emod_lt_of_pos (v * 256 + v2) (show 0 < m by omega)
  have hw3 : IntKind.i64.wrap ((v * 256 + v2) % m) = (v * 256 + v2) % m := by rw [wrap_i] <;> omega
  refine ⟨(v * 256 + v2) % m, at_ + 1 + 1, s2, ⟨r1, r2⟩, by omega, ?_⟩
  rw [call_eq pr 61 _ _ Try.f61 fn_61 _ rfl _ ann_61 rfl]
  simp -implicitDefEqProofs only [q1, q2, q3, gt_iff_lt, hn, hn2, hw1, hw2, ht, hw3, go_sem, Nat.reduceAdd, Nat.reduceSub, Nat.reduceMul, Nat.reduceMod, Nat.reduceLT, Nat.reduceLeDiff, Nat.reduceEqDiff, Nat.reduceBEq, Nat.reduceDiv, Int.reduceLT, Int.reduceLE, Int.reduceToNat, Int.reduceNeg, Int.reduceEq, ↓reduceIte, reduceCtorEq, ↓reduceDIte]
theorem call_one (bs : List Int) (hb : okBy bs) (at_ : Nat) (ha : at_ ≤ 900000) (seed : Int) (m : Int) (hm : 1 ≤ m ∧ m ≤ 200) : ∃ (q : Bool) (at' : Nat) (seed' : Int), at' ≤ at_ + 1 ∧ callOf pr 97 [.op 1000000 0, I m] (SRC bs at_ seed) = some (B q, SRC bs at' seed') := by
  obtain ⟨v, a1, s1, hv, ha1, h1⟩ := call_pick bs hb at_ (by omega) seed m hm
  refine ⟨decide (v = 0), a1, s1, ha1, ?_⟩
  rw [call_eq pr 97 _ _ Try.f97 fn_97 _ rfl _ ann_97 rfl]
  simp -implicitDefEqProofs only [h1, go_sem, Nat.reduceAdd, Nat.reduceSub, Nat.reduceMul, Nat.reduceMod, Nat.reduceLT, Nat.reduceLeDiff, Nat.reduceEqDiff, Nat.reduceBEq, Nat.reduceDiv, Int.reduceLT, Int.reduceLE, Int.reduceToNat, Int.reduceNeg, Int.reduceEq, ↓reduceIte, reduceCtorEq, ↓reduceDIte]
end Go.Proofs.Ytfooniikopekoaa.PI
