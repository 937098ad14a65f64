/- The reference's best run: its loops. -/
import Derived.Test.YticbfkoialmojaaO5
namespace Go.Proofs.Yticbfkoialmojaa.PI
open Go Go.Q
set_option maxRecDepth 100000
set_option maxHeartbeats 4000000
set_option linter.unusedSimpArgs false
set_option linter.unusedVariables false
theorem call_put (xs : List Int) (hb : xs.length ≤ 60) (a : Int) : callOf pr 86 [L xs, I a] [] = some (.os (.t 512), [(512, .arr true false (.int .i64) (putL xs a))]) := by
  have h := put_loop xs hb a xs 0 [] false rfl (by omega) (by simp)
  simp only [Bool.false_eq_true, if_false, List.nil_append] at h
  have h : loopOf pr 86 0 ⟨[(0, L xs), (1, I a), (5, .os (.t 512)), (6, B false), (7, I 0)], [(512, .arr true false (.int .i64) [])]⟩ = _ := h
  have hl := putP_length a xs
  rw [putP_L]
  cases hd : (putP a xs).2 with
  | true =>
    rw [hd] at h
    rw [if_pos rfl]
    rw [call_eq pr 86 _ _ Try.f86 fn_86 _ rfl _ ann_86 rfl]
    simp -implicitDefEqProofs only [h, go_sem, Nat.reduceAdd, Nat.reduceSub, Nat.reduceMul, Nat.reduceMod, Nat.reduceLT, Nat.reduceLeDiff, Nat.reduceEqDiff, Nat.reduceBEq, Nat.reduceDiv, Int.reduceLT, Int.reduceLE, Int.reduceToNat, Int.reduceNeg, Int.reduceEq, ↓reduceIte, reduceCtorEq, ↓reduceDIte]
  | false =>
    rw [hd] at h
    rw [if_neg (by simp)]
    generalize (putP a xs).1 = out at *
    have r1 : ((out.length + 1) * 8 ≤ 140737488355328 ∧ out.length ≤ 9223372036854775806) = True := tr ⟨by omega, by omega⟩
    rw [call_eq pr 86 _ _ Try.f86 fn_86 _ rfl _ ann_86 rfl]
    simp -implicitDefEqProofs only [h, r1, go_sem, Nat.reduceAdd, Nat.reduceSub, Nat.reduceMul, Nat.reduceMod, Nat.reduceLT, Nat.reduceLeDiff, Nat.reduceEqDiff, Nat.reduceBEq, Nat.reduceDiv, Int.reduceLT, Int.reduceLE, Int.reduceToNat, Int.reduceNeg, Int.reduceEq, ↓reduceIte, reduceCtorEq, ↓reduceDIte]
abbrev RT (uses : List Int) (w : Int) (k : Int) : Slots := [(0, L uses), (1, I w), (6, .os (.t 1024)), (7, .os (.t 1088)), (8, .os (.t 512)), (9, I k)]
abbrev RH (vs : List Int) (hs : List Bool) (now : List Int) : Heap := [(1024, .arr true false (.int .i64) vs), (1088, .arr true false .bool hs), (512, .arr true false (.int .i64) now)]
abbrev R1 (uses : List Int) (w k b j : Int) : Slots := [(0, L uses), (1, I w), (6, .os (.t 1024)), (7, .os (.t 1088)), (8, .os (.t 512)), (9, I k), (11, B false), (12, I b), (13, I j)]
theorem s1_y (uses now vs : List Int) (hs : List Bool) (w k b j : Nat) (y m : Int) (hk : k < uses.length) (hb : uses.length ≤ 60) (hj : j < now.length) (hbl : b < now.length) (l3 : now.length ≤ 60) (hy : ∀ z, now.getD j z = y) (hm : ∀ z, now.getD b z = m) (h : waitN uses m (k + 1) < waitN uses y (k + 1)) : loopOf pr 56 1 ⟨R1 uses w k b j, RH vs hs now⟩ = loopOf pr 56 1 ⟨R1 uses w k j ((j + 1 : Nat) : Int), RH vs hs now⟩ := by
  have hw : IntKind.i64.wrap ((j : Int) + 1) = ((j + 1 : Nat) : Int) := by rw [wrap_i] <;> omega
  have g1 := call_lnx uses y k (by omega) (by omega)
  have g2 := call_lnx uses m k (by omega) (by omega)
  rw [loop_eq pr 56 1 _ Try.f56 fn_56 _ rfl _ ann_56 _ rfl]
  simp -implicitDefEqProofs only [lt_cast hj, lt_cast hbl, hy, hm, hw, g1, g2, tr h, gt_iff_lt, zero_le_cast, Int.toNat_natCast, go_sem, Nat.reduceAdd, Nat.reduceSub, Nat.reduceMul, Nat.reduceMod, Nat.reduceLT, Nat.reduceLeDiff, Nat.reduceEqDiff, Nat.reduceBEq, Nat.reduceDiv, Int.reduceLT, Int.reduceLE, Int.reduceToNat, Int.reduceNeg, Int.reduceEq, ↓reduceIte, reduceCtorEq, ↓reduceDIte]
theorem s1_n (uses now vs : List Int) (hs : List Bool) (w k b j : Nat) (y m : Int) (hk : k < uses.length) (hb : uses.length ≤ 60) (hj : j < now.length) (hbl : b < now.length) (l3 : now.length ≤ 60) (hy : ∀ z, now.getD j z = y) (hm : ∀ z, now.getD b z = m) (h : ¬ waitN uses m (k + 1) < waitN uses y (k + 1)) : loopOf pr 56 1 ⟨R1 uses w k b j, RH vs hs now⟩ = loopOf pr 56 1 ⟨R1 uses w k b ((j + 1 : Nat) : Int), RH vs hs now⟩ := by
  have hw : IntKind.i64.wrap ((j : Int) + 1) = ((j + 1 : Nat) : Int) := by rw [wrap_i] <;> omega
  have g1 := call_lnx uses y k (by omega) (by omega)
  have g2 := call_lnx uses m k (by omega) (by omega)
  rw [loop_eq pr 56 1 _ Try.f56 fn_56 _ rfl _ ann_56 _ rfl]
  simp -implicitDefEqProofs only [lt_cast hj, lt_cast hbl, hy, hm, hw, g1, g2, fa h, gt_iff_lt, zero_le_cast, Int.toNat_natCast, go_sem, Nat.reduceAdd, Nat.reduceSub, Nat.reduceMul, Nat.reduceMod, Nat.reduceLT, Nat.reduceLeDiff, Nat.reduceEqDiff, Nat.reduceBEq, Nat.reduceDiv, Int.reduceLT, Int.reduceLE, Int.reduceToNat, Int.reduceNeg, Int.reduceEq, ↓reduceIte, reduceCtorEq, ↓reduceDIte]
theorem s1_e (uses now vs : List Int) (hs : List Bool) (w k b : Nat) : loopOf pr 56 1 ⟨R1 uses w k b now.length, RH vs hs now⟩ = some (.exit 2, ⟨R1 uses w k b now.length, RH vs hs now⟩) := by
  rw [loop_eq pr 56 1 _ Try.f56 fn_56 _ rfl _ ann_56 _ rfl]
  simp -implicitDefEqProofs only [Int.lt_irrefl, go_sem, Nat.reduceAdd, Nat.reduceSub, Nat.reduceMul, Nat.reduceMod, Nat.reduceLT, Nat.reduceLeDiff, Nat.reduceEqDiff, Nat.reduceBEq, Nat.reduceDiv, Int.reduceLT, Int.reduceLE, Int.reduceToNat, Int.reduceNeg, Int.reduceEq, ↓reduceIte, reduceCtorEq, ↓reduceDIte]
theorem s1_l (uses now vs : List Int) (hs : List Bool) (w k : Nat) (hk : k < uses.length) (hb : uses.length ≤ 60) (l3 : now.length ≤ 60) : ∀ (suf : List Int) (b j : Nat) (m : Int), now.drop j = suf → j ≤ now.length → now[b]? = some m →
    loopOf pr 56 1 ⟨R1 uses w k b j, RH vs hs now⟩ = some (.exit 2, ⟨R1 uses w k (lastB (fun x => waitN uses x (k + 1)) b m j suf : Nat) now.length, RH vs hs now⟩)
  | [], b, j, m, e, hj, hm => by
    have hk2 : j = now.length := by
      have := congrArg List.length e
      simp only [List.length_drop, List.length_nil] at this
      omega
    subst hk2
    exact s1_e uses now vs hs w k b
  | y :: suf, b, j, m, e, hj, hm => by
    have hlt : j < now.length := by
      have := congrArg List.length e
      simp only [List.length_drop, List.length_cons] at this
      omega
    have hy0 : now[j]? = some y := by
      have := congrArg (·[0]?) e
      simpa using this
    have hbl : b < now.length := (List.getElem?_eq_some_iff.1 hm).1
    have e' : now.drop (j + 1) = suf := by
      have := congrArg (·.drop 1) e
      simpa using this
    unfold lastB
    by_cases h : waitN uses m (k + 1) < waitN uses y (k + 1)
    · rw [if_pos h, s1_y uses now vs hs w k b j y m hk hb hlt hbl l3 (fun z => by simp [List.getD, hy0]) (fun z => by simp [List.getD, hm]) h]
      exact s1_l uses now vs hs w k hk hb l3 suf j (j + 1) y e' (by omega) hy0
    · rw [if_neg h, s1_n uses now vs hs w k b j y m hk hb hlt hbl l3 (fun z => by simp [List.getD, hy0]) (fun z => by simp [List.getD, hm]) h]
      exact s1_l uses now vs hs w k hk hb l3 suf b (j + 1) m e' (by omega) hm
theorem s_h (uses now vs : List Int) (hs : List Bool) (w k : Nat) (a : Int) (hk : k < uses.length) (hb : uses.length ≤ 60) (ha : ∀ z, uses.getD k z = a) (l1 : vs.length ≤ 60) (l2 : hs.length ≤ 60) (l3 : now.length ≤ 60) (g : callOf pr 82 [L now, I a] [] = some (B true, [])) : loopOf pr 56 0 ⟨RT uses w k, RH vs hs now⟩ = loopOf pr 56 0 ⟨RT uses w ((k + 1 : Nat) : Int), RH (vs ++ [-1]) (hs ++ [true]) now⟩ := by
  have hw : IntKind.i64.wrap ((k : Int) + 1) = ((k + 1 : Nat) : Int) := by rw [wrap_i] <;> omega
  have r1 : ((vs.length + 1) * 8 ≤ 140737488355328 ∧ vs.length ≤ 9223372036854775806) = True := tr ⟨by omega, by omega⟩
  have r2 : ((hs.length + 1) * 1 ≤ 140737488355328 ∧ hs.length ≤ 9223372036854775806) = True := tr ⟨by omega, by omega⟩
  rw [loop_eq pr 56 0 _ Try.f56 fn_56 _ rfl _ ann_56 _ rfl]
  simp -implicitDefEqProofs only [lt_cast hk, ha, g, hw, zero_le_cast, Int.toNat_natCast, r1, r2, go_sem, Nat.reduceAdd, Nat.reduceSub, Nat.reduceMul, Nat.reduceMod, Nat.reduceLT, Nat.reduceLeDiff, Nat.reduceEqDiff, Nat.reduceBEq, Nat.reduceDiv, Int.reduceLT, Int.reduceLE, Int.reduceToNat, Int.reduceNeg, Int.reduceEq, ↓reduceIte, reduceCtorEq, ↓reduceDIte]
theorem s_a (uses now vs : List Int) (hs : List Bool) (w k : Nat) (a : Int) (hk : k < uses.length) (hb : uses.length ≤ 60) (ha : ∀ z, uses.getD k z = a) (l1 : vs.length ≤ 60) (l2 : hs.length ≤ 60) (l3 : now.length ≤ 60) (g : callOf pr 82 [L now, I a] [] = some (B false, [])) (hne : ¬ (now.length : Int) = (w : Int)) (ys : List Int) (g2 : callOf pr 86 [L now, I a] [] = some (.os (.t 512), [(512, .arr true false (.int .i64) ys)])) : loopOf pr 56 0 ⟨RT uses w k, RH vs hs now⟩ = loopOf pr 56 0 ⟨RT uses w ((k + 1 : Nat) : Int), RH (vs ++ [-1]) (hs ++ [false]) ys⟩ := by
  have hw : IntKind.i64.wrap ((k : Int) + 1) = ((k + 1 : Nat) : Int) := by rw [wrap_i] <;> omega
  have r1 : ((vs.length + 1) * 8 ≤ 140737488355328 ∧ vs.length ≤ 9223372036854775806) = True := tr ⟨by omega, by omega⟩
  have r2 : ((hs.length + 1) * 1 ≤ 140737488355328 ∧ hs.length ≤ 9223372036854775806) = True := tr ⟨by omega, by omega⟩
  rw [loop_eq pr 56 0 _ Try.f56 fn_56 _ rfl _ ann_56 _ rfl]
  simp -implicitDefEqProofs only [lt_cast hk, ha, g, g2, fa hne, hw, zero_le_cast, Int.toNat_natCast, r1, r2, go_sem, Nat.reduceAdd, Nat.reduceSub, Nat.reduceMul, Nat.reduceMod, Nat.reduceLT, Nat.reduceLeDiff, Nat.reduceEqDiff, Nat.reduceBEq, Nat.reduceDiv, Int.reduceLT, Int.reduceLE, Int.reduceToNat, Int.reduceNeg, Int.reduceEq, ↓reduceIte, reduceCtorEq, ↓reduceDIte]
abbrev R2 (uses : List Int) (w k v b j : Int) : Slots := [(0, L uses), (1, I w), (6, .os (.t 1024)), (7, .os (.t 1088)), (8, .os (.t 512)), (9, I k), (10, I v), (11, B false), (12, I b), (14, .os (.t 4160)), (15, I j)]
abbrev RG (vs : List Int) (hs : List Bool) (now re : List Int) : Heap := [(1024, .arr true false (.int .i64) vs), (1088, .arr true false .bool hs), (512, .arr true false (.int .i64) now), (4160, .arr true false (.int .i64) re)]
theorem s2_y (uses now vs re : List Int) (hs : List Bool) (w k b j : Nat) (v y : Int) (hj : j < now.length) (l3 : now.length ≤ 60) (l4 : re.length ≤ 60) (hy : ∀ z, now.getD j z = y) (h : ¬ j = b) : loopOf pr 56 2 ⟨R2 uses w k v b j, RG vs hs now re⟩ = loopOf pr 56 2 ⟨R2 uses w k v b ((j + 1 : Nat) : Int), RG vs hs now (re ++ [y])⟩ := by
  have hw : IntKind.i64.wrap ((j : Int) + 1) = ((j + 1 : Nat) : Int) := by rw [wrap_i] <;> omega
  have hne : ((j : Int) = (b : Int)) = False := fa (by omega)
  have r1 : ((re.length + 1) * 8 ≤ 140737488355328 ∧ re.length ≤ 9223372036854775806) = True := tr ⟨by omega, by omega⟩
  rw [loop_eq pr 56 2 _ Try.f56 fn_56 _ rfl _ ann_56 _ rfl]
  simp -implicitDefEqProofs only [lt_cast hj, hy, hw, hne, r1, zero_le_cast, Int.toNat_natCast, go_sem, Nat.reduceAdd, Nat.reduceSub, Nat.reduceMul, Nat.reduceMod, Nat.reduceLT, Nat.reduceLeDiff, Nat.reduceEqDiff, Nat.reduceBEq, Nat.reduceDiv, Int.reduceLT, Int.reduceLE, Int.reduceToNat, Int.reduceNeg, Int.reduceEq, ↓reduceIte, reduceCtorEq, ↓reduceDIte]
theorem s2_n (uses now vs re : List Int) (hs : List Bool) (w k b j : Nat) (v y : Int) (hj : j < now.length) (l3 : now.length ≤ 60) (l4 : re.length ≤ 60) (hy : ∀ z, now.getD j z = y) (h : j = b) : loopOf pr 56 2 ⟨R2 uses w k v b j, RG vs hs now re⟩ = loopOf pr 56 2 ⟨R2 uses w k v b ((j + 1 : Nat) : Int), RG vs hs now re⟩ := by
  have hw : IntKind.i64.wrap ((j : Int) + 1) = ((j + 1 : Nat) : Int) := by rw [wrap_i] <;> omega
  have hne : ((j : Int) = (b : Int)) = True := tr (by omega)
  rw [loop_eq pr 56 2 _ Try.f56 fn_56 _ rfl _ ann_56 _ rfl]
  simp -implicitDefEqProofs only [lt_cast hj, hy, hw, hne, zero_le_cast, Int.toNat_natCast, go_sem, Nat.reduceAdd, Nat.reduceSub, Nat.reduceMul, Nat.reduceMod, Nat.reduceLT, Nat.reduceLeDiff, Nat.reduceEqDiff, Nat.reduceBEq, Nat.reduceDiv, Int.reduceLT, Int.reduceLE, Int.reduceToNat, Int.reduceNeg, Int.reduceEq, ↓reduceIte, reduceCtorEq, ↓reduceDIte]
theorem s2_e (uses now vs re : List Int) (hs : List Bool) (w k b : Nat) (v : Int) : loopOf pr 56 2 ⟨R2 uses w k v b now.length, RG vs hs now re⟩ = some (.exit 4, ⟨R2 uses w k v b now.length, RG vs hs now re⟩) := by
  rw [loop_eq pr 56 2 _ Try.f56 fn_56 _ rfl _ ann_56 _ rfl]
  simp -implicitDefEqProofs only [Int.lt_irrefl, go_sem, Nat.reduceAdd, Nat.reduceSub, Nat.reduceMul, Nat.reduceMod, Nat.reduceLT, Nat.reduceLeDiff, Nat.reduceEqDiff, Nat.reduceBEq, Nat.reduceDiv, Int.reduceLT, Int.reduceLE, Int.reduceToNat, Int.reduceNeg, Int.reduceEq, ↓reduceIte, reduceCtorEq, ↓reduceDIte]
theorem s2_l (uses now vs : List Int) (hs : List Bool) (w k b : Nat) (v : Int) (l3 : now.length ≤ 60) : ∀ (suf : List Int) (j : Nat) (re : List Int), now.drop j = suf → j ≤ now.length → re.length ≤ j →
    loopOf pr 56 2 ⟨R2 uses w k v b j, RG vs hs now re⟩ = some (.exit 4, ⟨R2 uses w k v b now.length, RG vs hs now (re ++ if j ≤ b then suf.eraseIdx (b - j) else suf)⟩)
  | [], j, re, e, hj, hr => by
    have hk2 : j = now.length := by
      have := congrArg List.length e
      simp only [List.length_drop, List.length_nil] at this
      omega
    subst hk2
    have : re ++ (if now.length ≤ b then ([] : List Int).eraseIdx (b - now.length) else []) = re := by split <;> simp
    rw [this]
    exact s2_e uses now vs re hs w k b v
  | y :: suf, j, re, e, hj, hr => by
    have hlt : j < now.length := by
      have := congrArg List.length e
      simp only [List.length_drop, List.length_cons] at this
      omega
    have hy0 : now[j]? = some y := by
      have := congrArg (·[0]?) e
      simpa using this
    have e' : now.drop (j + 1) = suf := by
      have := congrArg (·.drop 1) e
      simpa using this
    by_cases h : j = b
    · have ih := s2_l uses now vs hs w k b v l3 suf (j + 1) re e' (by omega) (by omega)
      rw [s2_n uses now vs re hs w k b j v y hlt l3 (by omega) (fun z => by simp [List.getD, hy0]) h, ih, if_neg (by omega), if_pos (by omega), show b - j = 0 by omega]
      rfl
    · have ih := s2_l uses now vs hs w k b v l3 suf (j + 1) (re ++ [y]) e' (by omega) (by simp; omega)
      rw [s2_y uses now vs re hs w k b j v y hlt l3 (by omega) (fun z => by simp [List.getD, hy0]) h, ih]
      by_cases hjb : j ≤ b
      · rw [if_pos (by omega), if_pos hjb, show b - j = (b - (j + 1)) + 1 by omega, List.eraseIdx_cons_succ, List.append_assoc]; rfl
      · rw [if_neg (by omega), if_neg hjb, List.append_assoc]; rfl
theorem s_v (uses now vs : List Int) (hs : List Bool) (w k : Nat) (a : Int) (hk : k < uses.length) (hb : uses.length ≤ 60) (ha : ∀ z, uses.getD k z = a) (l1 : vs.length ≤ 60) (l2 : hs.length ≤ 60) (l3 : now.length ≤ 60) (g : callOf pr 82 [L now, I a] [] = some (B false, [])) (hne : now.length = w) (b : Nat) (v : Int) (hbl : b < now.length) (hv : ∀ z, now.getD b z = v) (re ys : List Int) (g1 : loopOf pr 56 1 ⟨R1 uses w k 0 1, RH vs hs now⟩ = some (.exit 2, ⟨R1 uses w k b now.length, RH vs hs now⟩)) (g2 : loopOf pr 56 2 ⟨R2 uses w k v b 0, RG vs hs now []⟩ = some (.exit 4, ⟨R2 uses w k v b now.length, RG vs hs now re⟩)) (g3 : callOf pr 86 [L re, I a] [] = some (.os (.t 512), [(512, .arr true false (.int .i64) ys)])) : loopOf pr 56 0 ⟨RT uses w k, RH vs hs now⟩ = loopOf pr 56 0 ⟨RT uses w ((k + 1 : Nat) : Int), RH (vs ++ [v]) (hs ++ [false]) ys⟩ := by
  have hne2 : ((now.length : Int) = (w : Int)) = True := tr (by omega)
  have hw : IntKind.i64.wrap ((k : Int) + 1) = ((k + 1 : Nat) : Int) := by rw [wrap_i] <;> omega
  have r1 : ((vs.length + 1) * 8 ≤ 140737488355328 ∧ vs.length ≤ 9223372036854775806) = True := tr ⟨by omega, by omega⟩
  have r2 : ((hs.length + 1) * 1 ≤ 140737488355328 ∧ hs.length ≤ 9223372036854775806) = True := tr ⟨by omega, by omega⟩
  rw [loop_eq pr 56 0 _ Try.f56 fn_56 _ rfl _ ann_56 _ rfl]
  simp -implicitDefEqProofs only [lt_cast hk, lt_cast hbl, ha, hv, g, hne2, hw, g1, g2, g3, zero_le_cast, Int.toNat_natCast, r1, r2, go_sem, Nat.reduceAdd, Nat.reduceSub, Nat.reduceMul, Nat.reduceMod, Nat.reduceLT, Nat.reduceLeDiff, Nat.reduceEqDiff, Nat.reduceBEq, Nat.reduceDiv, Int.reduceLT, Int.reduceLE, Int.reduceToNat, Int.reduceNeg, Int.reduceEq, ↓reduceIte, reduceCtorEq, ↓reduceDIte]
theorem s_e (uses now vs : List Int) (hs : List Bool) (w : Nat) : loopOf pr 56 0 ⟨RT uses w uses.length, RH vs hs now⟩ = some (.exit 0, ⟨RT uses w uses.length, RH vs hs now⟩) := by
  rw [loop_eq pr 56 0 _ Try.f56 fn_56 _ rfl _ ann_56 _ rfl]
  simp -implicitDefEqProofs only [Int.lt_irrefl, go_sem, Nat.reduceAdd, Nat.reduceSub, Nat.reduceMul, Nat.reduceMod, Nat.reduceLT, Nat.reduceLeDiff, Nat.reduceEqDiff, Nat.reduceBEq, Nat.reduceDiv, Int.reduceLT, Int.reduceLE, Int.reduceToNat, Int.reduceNeg, Int.reduceEq, ↓reduceIte, reduceCtorEq, ↓reduceDIte]
theorem s_l (uses : List Int) (hb : uses.length ≤ 60) (w : Nat) (hw : 1 ≤ w ∧ w ≤ 60) : ∀ (suf : List Int) (k : Nat) (now vs : List Int) (hs : List Bool), uses.drop k = suf → k ≤ uses.length → now.Pairwise (· < ·) → now.length ≤ w → vs.length = k → hs.length = k →
    ∃ now' vs', loopOf pr 56 0 ⟨RT uses w k, RH vs hs now⟩ = some (.exit 0, ⟨RT uses w uses.length, RH vs' (hs ++ runB uses w k now suf) now'⟩)
  | [], k, now, vs, hs, e, hk, hso, hl, q1, q2 => by
    have hk2 : k = uses.length := by
      have := congrArg List.length e
      simp only [List.length_drop, List.length_nil] at this
      omega
    subst hk2
    exact ⟨now, vs, by simp only [runB, List.append_nil]; exact s_e uses now vs hs w⟩
  | a :: suf, k, now, vs, hs, e, hk, hso, hl, q1, q2 => by
    have hlt : k < uses.length := by
      have := congrArg List.length e
      simp only [List.length_drop, List.length_cons] at this
      omega
    have ha0 : uses[k]? = some a := by
      have := congrArg (·[0]?) e
      simpa using this
    have ha : ∀ z, uses.getD k z = a := fun z => by simp [List.getD, ha0]
    have e' : uses.drop (k + 1) = suf := by
      have := congrArg (·.drop 1) e
      simpa using this
    have hc := call_has now a (by omega)
    have hcc : (now.any fun y => decide (y = a)) = now.contains a := by
      rw [List.contains_eq_any_beq]
      congr 1
      funext x
      by_cases h : x = a
      · rw [h]; simp
      · have h2 : ¬ a = x := fun e => h e.symm
        simp [h, h2]
    rw [hcc] at hc
    obtain ⟨t1, t2⟩ := stepB_ok uses hw.1 k a hso hl
    have next : ∀ (now2 vs2 : List Int) (h : Bool), (stepB uses w k now a).2.1 = h → (stepB uses w k now a).1 = now2 → vs2.length = k + 1 → loopOf pr 56 0 ⟨RT uses w k, RH vs hs now⟩ = loopOf pr 56 0 ⟨RT uses w ((k + 1 : Nat) : Int), RH vs2 (hs ++ [h]) now2⟩ →
        ∃ now' vs', loopOf pr 56 0 ⟨RT uses w k, RH vs hs now⟩ = some (.exit 0, ⟨RT uses w uses.length, RH vs' (hs ++ runB uses w k now (a :: suf)) now'⟩) := by
      intro now2 vs2 h he hn2 hvl hst
      subst hn2
      obtain ⟨now', vs', hh⟩ := s_l uses hb w hw suf (k + 1) _ vs2 (hs ++ [h]) e' (by omega) t1 t2 hvl (by simp; omega)
      refine ⟨now', vs', ?_⟩
      rw [hst, hh]
      simp only [runB, he, List.append_assoc, List.singleton_append]
    cases hcn : now.contains a with
    | true =>
      rw [hcn] at hc
      have hsb : stepB uses w k now a = (now, true, -1) := by unfold stepB; rw [if_pos hcn]
      exact next now (vs ++ [-1]) true (by rw [hsb]) (by rw [hsb]) (by simp; omega) (s_h uses now vs hs w k a hlt hb ha (by omega) (by omega) (by omega) hc)
    | false =>
      rw [hcn] at hc
      have hn : a ∉ now := by simpa using hcn
      by_cases hnw : now.length = w
      · have hnow : ∃ x l, now = x :: l := by
          cases h : now with
          | nil => rw [h] at hnw; simp at hnw; omega
          | cons x l => exact ⟨x, l, rfl⟩
        obtain ⟨x, l, hnow⟩ := hnow
        have g1 := s1_l uses now vs hs w k hlt hb (by omega) l 0 1 x (by rw [hnow]; rfl) (by rw [hnow]; simp) (by rw [hnow]; rfl)
        have hbl := lastB_lt (fun x => waitN uses x (k + 1)) l 0 x 1 now.length (by rw [hnow]; simp) (by rw [hnow]; simp; omega)
        have hsb : stepB uses w k now a = (putL (now.eraseIdx (lastB (fun x => waitN uses x (k + 1)) 0 x 1 l)) a, false, now.getD (lastB (fun x => waitN uses x (k + 1)) 0 x 1 l) 0) := by
          unfold stepB
          rw [if_neg (by simp [hn]), if_pos hnw]
          simp only [hnow, List.getD_cons_zero, List.drop_succ_cons, List.drop_zero]
        generalize lastB (fun x => waitN uses x (k + 1)) 0 x 1 l = b at *
        have hv : ∀ z, now.getD b z = now[b] := fun z => getD_of_lt hbl z
        have g2 := s2_l uses now vs hs w k b now[b] (by omega) now 0 [] rfl (by omega) (by simp)
        rw [if_pos (by omega), List.nil_append, Nat.sub_zero] at g2
        have g3 := call_put (now.eraseIdx b) (by rw [List.length_eraseIdx]; split <;> omega) a
        exact next _ (vs ++ [now[b]]) false (by rw [hsb]) (by rw [hsb]) (by simp; omega) (s_v uses now vs hs w k a hlt hb ha (by omega) (by omega) (by omega) hc hnw b now[b] hbl hv _ _ g1 g2 g3)
      · have hsb : stepB uses w k now a = (putL now a, false, -1) := by unfold stepB; rw [if_neg (by simp [hn]), if_neg hnw]
        exact next _ (vs ++ [-1]) false (by rw [hsb]) (by rw [hsb]) (by simp; omega) (s_a uses now vs hs w k a hlt hb ha (by omega) (by omega) (by omega) hc (by omega) _ (call_put now (by omega) a))
theorem call_sr (uses : List Int) (hb : uses.length ≤ 60) (w : Nat) (hw : 1 ≤ w ∧ w ≤ 60) : ∃ vs, callOf pr 56 [L uses, I w] [] = some (.tuple [.os (.t 1024), .os (.t 1088)], [(1024, .arr true false (.int .i64) vs), (1088, .arr true false .bool (runB uses w 0 [] uses))]) := by
  obtain ⟨now', vs', h⟩ := s_l uses hb w hw uses 0 [] [] [] rfl (by omega) List.Pairwise.nil (by simp) rfl rfl
  have h : loopOf pr 56 0 ⟨[(0, L uses), (1, I w), (6, .os (.t 1024)), (7, .os (.t 1088)), (8, .os (.t 512)), (9, I 0)], [(1024, .arr true false (.int .i64) []), (1088, .arr true false .bool []), (512, .arr true false (.int .i64) [])]⟩ = some (.exit 0, ⟨RT uses w uses.length, RH vs' (runB uses w 0 [] uses) now'⟩) := h
  refine ⟨vs', ?_⟩
  rw [call_eq pr 56 _ _ Try.f56 fn_56 _ rfl _ ann_56 rfl]
  simp -implicitDefEqProofs only [h, go_sem, Nat.reduceAdd, Nat.reduceSub, Nat.reduceMul, Nat.reduceMod, Nat.reduceLT, Nat.reduceLeDiff, Nat.reduceEqDiff, Nat.reduceBEq, Nat.reduceDiv, Int.reduceLT, Int.reduceLE, Int.reduceToNat, Int.reduceNeg, Int.reduceEq, ↓reduceIte, reduceCtorEq, ↓reduceDIte]
theorem sm_s (bs : List Bool) (b : Bool) (m k : Nat) (hk : k < bs.length) (hb : bs.length ≤ 60) (hm : m ≤ 60) (hx : ∀ z, bs.getD k z = b) : loopOf pr 28 0 ⟨[(6, .os (.t 769)), (7, I m), (8, I k)], [(769, .arr true false .bool bs)]⟩ = loopOf pr 28 0 ⟨[(6, .os (.t 769)), (7, I ((if b = true then m else m + 1 : Nat) : Int)), (8, I ((k + 1 : Nat) : Int))], [(769, .arr true false .bool bs)]⟩ := by
  have hw : IntKind.i64.wrap ((k : Int) + 1) = ((k + 1 : Nat) : Int) := by rw [wrap_i] <;> omega
  have hw2 : IntKind.i64.wrap ((m : Int) + 1) = ((m + 1 : Nat) : Int) := by rw [wrap_i] <;> omega
  rw [loop_eq pr 28 0 _ Try.f28 fn_28 _ rfl _ ann_28 _ rfl]
  cases b with
  | true =>
    rw [if_pos rfl]
    simp -implicitDefEqProofs only [lt_cast hk, zero_le_cast, Int.toNat_natCast, hx, hw, hw2, go_sem, Nat.reduceAdd, Nat.reduceSub, Nat.reduceMul, Nat.reduceMod, Nat.reduceLT, Nat.reduceLeDiff, Nat.reduceEqDiff, Nat.reduceBEq, Nat.reduceDiv, Int.reduceLT, Int.reduceLE, Int.reduceToNat, Int.reduceNeg, Int.reduceEq, ↓reduceIte, reduceCtorEq, ↓reduceDIte]
  | false =>
    rw [if_neg (by simp)]
    simp -implicitDefEqProofs only [lt_cast hk, zero_le_cast, Int.toNat_natCast, hx, hw, hw2, go_sem, Nat.reduceAdd, Nat.reduceSub, Nat.reduceMul, Nat.reduceMod, Nat.reduceLT, Nat.reduceLeDiff, Nat.reduceEqDiff, Nat.reduceBEq, Nat.reduceDiv, Int.reduceLT, Int.reduceLE, Int.reduceToNat, Int.reduceNeg, Int.reduceEq, ↓reduceIte, reduceCtorEq, ↓reduceDIte]
theorem sm_e (bs : List Bool) (m : Nat) : loopOf pr 28 0 ⟨[(6, .os (.t 769)), (7, I m), (8, I bs.length)], [(769, .arr true false .bool bs)]⟩ = some (.exit 0, ⟨[(6, .os (.t 769)), (7, I m), (8, I bs.length)], [(769, .arr true false .bool bs)]⟩) := by
  rw [loop_eq pr 28 0 _ Try.f28 fn_28 _ rfl _ ann_28 _ rfl]
  simp -implicitDefEqProofs only [Int.lt_irrefl, go_sem, Nat.reduceAdd, Nat.reduceSub, Nat.reduceMul, Nat.reduceMod, Nat.reduceLT, Nat.reduceLeDiff, Nat.reduceEqDiff, Nat.reduceBEq, Nat.reduceDiv, Int.reduceLT, Int.reduceLE, Int.reduceToNat, Int.reduceNeg, Int.reduceEq, ↓reduceIte, reduceCtorEq, ↓reduceDIte]
theorem sm_l (bs : List Bool) (hb : bs.length ≤ 60) : ∀ (suf : List Bool) (k m : Nat), bs.drop k = suf → k ≤ bs.length → m ≤ k → loopOf pr 28 0 ⟨[(6, .os (.t 769)), (7, I m), (8, I k)], [(769, .arr true false .bool bs)]⟩ = some (.exit 0, ⟨[(6, .os (.t 769)), (7, I ((m + missB suf : Nat) : Int)), (8, I bs.length)], [(769, .arr true false .bool bs)]⟩)
  | [], k, m, e, hk, hm => by
    have hk2 : k = bs.length := by
      have := congrArg List.length e
      simp only [List.length_drop, List.length_nil] at this
      omega
    rw [hk2]
    exact sm_e bs m
  | b :: suf, k, m, e, hk, hm => by
    have hlt : k < bs.length := by
      have := congrArg List.length e
      simp only [List.length_drop, List.length_cons] at this
      omega
    have hx0 : bs[k]? = some b := by
      have := congrArg (·[0]?) e
      simpa using this
    have e' : bs.drop (k + 1) = suf := by
      have := congrArg (·.drop 1) e
      simpa using this
    have ih := sm_l bs hb suf (k + 1) (if b = true then m else m + 1) e' (by omega) (by split <;> omega)
    rw [sm_s bs b m k hlt hb (by omega) (fun z => by simp [List.getD, hx0]), ih, missB_cons]
    cases b
    · simp only [Bool.false_eq_true, if_false]; rw [show m + 1 + missB suf = m + (missB suf + 1) by omega]
    · simp only [if_true]
theorem call_sm (uses : List Int) (hb : uses.length ≤ 60) (w : Nat) (hw : 1 ≤ w ∧ w ≤ 60) : callOf pr 28 [L uses, I w] [] = some (I (missB (runB uses w 0 [] uses)), []) := by
  obtain ⟨vs, h⟩ := call_sr uses hb w hw
  have hl := runB_length uses w uses 0 []
  have h2 := sm_l (runB uses w 0 [] uses) (by omega) (runB uses w 0 [] uses) 0 0 rfl (by omega) (by omega)
  rw [Nat.zero_add] at h2
  have h2 : loopOf pr 28 0 ⟨[(6, .os (.t 769)), (7, I 0), (8, I 0)], [(769, .arr true false .bool (runB uses w 0 [] uses))]⟩ = _ := h2
  generalize runB uses w 0 [] uses = bs at *
  rw [call_eq pr 28 _ _ Try.f28 fn_28 _ rfl _ ann_28 rfl]
  simp -implicitDefEqProofs only [h, h2, go_sem, Nat.reduceAdd, Nat.reduceSub, Nat.reduceMul, Nat.reduceMod, Nat.reduceLT, Nat.reduceLeDiff, Nat.reduceEqDiff, Nat.reduceBEq, Nat.reduceDiv, Int.reduceLT, Int.reduceLE, Int.reduceToNat, Int.reduceNeg, Int.reduceEq, ↓reduceIte, reduceCtorEq, ↓reduceDIte]
theorem dv_l (n : Nat) : ∀ (a b : Nat), a ≤ n → loopOf pr 29 0 ⟨[(0, I a), (1, I b)], []⟩ = some (.exit 0, ⟨[(0, I 0), (1, I (Nat.gcd a b))], []⟩) := by
  induction n with
  | zero =>
    intro a b h
    obtain rfl : a = 0 := by omega
    rw [Nat.gcd_zero_left]
    rw [loop_eq pr 29 0 _ Try.f29 fn_29 _ rfl _ ann_29 _ rfl]
    simp -implicitDefEqProofs only [Int.natCast_zero, Int.lt_irrefl, gt_iff_lt, go_sem, Nat.reduceAdd, Nat.reduceSub, Nat.reduceMul, Nat.reduceMod, Nat.reduceLT, Nat.reduceLeDiff, Nat.reduceEqDiff, Nat.reduceBEq, Nat.reduceDiv, Int.reduceLT, Int.reduceLE, Int.reduceToNat, Int.reduceNeg, Int.reduceEq, ↓reduceIte, reduceCtorEq, ↓reduceDIte]
  | succ n ih =>
    intro a b h
    by_cases h0 : a = 0
    · exact ih a b (by omega)
    · have h1 : (0 < (a : Int)) = True := tr (by omega)
      have h2 : ((a : Int) = 0) = False := fa (by omega)
      have ht : (b : Int).tmod (a : Int) = ((b % a : Nat) : Int) := by rw [Int.tmod_eq_emod_of_nonneg (by omega)]; rfl
      have hlt := Nat.mod_lt b (show 0 < a by omega)
      have hi := ih (b % a) a (by omega)
      rw [← Nat.gcd_rec] at hi
      rw [← hi]
      rw [loop_eq pr 29 0 _ Try.f29 fn_29 _ rfl _ ann_29 _ rfl]
      simp -implicitDefEqProofs only [h1, h2, gt_iff_lt, ht, go_sem, Nat.reduceAdd, Nat.reduceSub, Nat.reduceMul, Nat.reduceMod, Nat.reduceLT, Nat.reduceLeDiff, Nat.reduceEqDiff, Nat.reduceBEq, Nat.reduceDiv, Int.reduceLT, Int.reduceLE, Int.reduceToNat, Int.reduceNeg, Int.reduceEq, ↓reduceIte, reduceCtorEq, ↓reduceDIte]
theorem call_dv (a b : Nat) : callOf pr 29 [I a, I b] [] = some (I (Nat.gcd a b), []) := by
  have h := dv_l a a b (Nat.le_refl _)
  generalize Nat.gcd a b = g at *
  rw [call_eq pr 29 _ _ Try.f29 fn_29 _ rfl _ ann_29 rfl]
  simp -implicitDefEqProofs only [h, go_sem, Nat.reduceAdd, Nat.reduceSub, Nat.reduceMul, Nat.reduceMod, Nat.reduceLT, Nat.reduceLeDiff, Nat.reduceEqDiff, Nat.reduceBEq, Nat.reduceDiv, Int.reduceLT, Int.reduceLE, Int.reduceToNat, Int.reduceNeg, Int.reduceEq, ↓reduceIte, reduceCtorEq, ↓reduceDIte]
theorem id_l (n : Nat) : ∀ (a b : Nat), b ≤ n → loopOf pr 64 0 ⟨[(0, I a), (1, I b)], []⟩ = some (.exit 0, ⟨[(0, I (Nat.gcd b a)), (1, I 0)], []⟩) := by
  induction n with
  | zero =>
    intro a b h
    obtain rfl : b = 0 := by omega
    rw [Nat.gcd_zero_left]
    rw [loop_eq pr 64 0 _ Try.f64 fn_64 _ rfl _ ann_64 _ rfl]
    simp -implicitDefEqProofs only [Int.natCast_zero, go_sem, Nat.reduceAdd, Nat.reduceSub, Nat.reduceMul, Nat.reduceMod, Nat.reduceLT, Nat.reduceLeDiff, Nat.reduceEqDiff, Nat.reduceBEq, Nat.reduceDiv, Int.reduceLT, Int.reduceLE, Int.reduceToNat, Int.reduceNeg, Int.reduceEq, ↓reduceIte, reduceCtorEq, ↓reduceDIte]
  | succ n ih =>
    intro a b h
    by_cases h0 : b = 0
    · exact ih a b (by omega)
    · have h2 : ((b : Int) = 0) = False := fa (by omega)
      have ht : (a : Int).tmod (b : Int) = ((a % b : Nat) : Int) := by rw [Int.tmod_eq_emod_of_nonneg (by omega)]; rfl
      have hlt := Nat.mod_lt a (show 0 < b by omega)
      have hi := ih b (a % b) (by omega)
      rw [← Nat.gcd_rec] at hi
      rw [← hi]
      rw [loop_eq pr 64 0 _ Try.f64 fn_64 _ rfl _ ann_64 _ rfl]
      simp -implicitDefEqProofs only [h2, ht, go_sem, Nat.reduceAdd, Nat.reduceSub, Nat.reduceMul, Nat.reduceMod, Nat.reduceLT, Nat.reduceLeDiff, Nat.reduceEqDiff, Nat.reduceBEq, Nat.reduceDiv, Int.reduceLT, Int.reduceLE, Int.reduceToNat, Int.reduceNeg, Int.reduceEq, ↓reduceIte, reduceCtorEq, ↓reduceDIte]
theorem call_id (a b : Nat) : callOf pr 64 [I a, I b] [] = some (I (Nat.gcd a b), []) := by
  have h := id_l b a b (Nat.le_refl _)
  rw [Nat.gcd_comm] at h
  generalize Nat.gcd a b = g at *
  rw [call_eq pr 64 _ _ Try.f64 fn_64 _ rfl _ ann_64 rfl]
  simp -implicitDefEqProofs only [h, go_sem, Nat.reduceAdd, Nat.reduceSub, Nat.reduceMul, Nat.reduceMod, Nat.reduceLT, Nat.reduceLeDiff, Nat.reduceEqDiff, Nat.reduceBEq, Nat.reduceDiv, Int.reduceLT, Int.reduceLE, Int.reduceToNat, Int.reduceNeg, Int.reduceEq, ↓reduceIte, reduceCtorEq, ↓reduceDIte]
theorem call_ir (a b : Nat) (ha : a ≤ 1000000000) (hb : 1 ≤ b ∧ b ≤ 1000000000) : callOf pr 63 [I a, I b] [] = some (B true, []) := by
  have h1 := call_51 (a : Int) 0 1000000000
  have h2 := call_51 (b : Int) 1 1000000000
  rw [decide_eq_true (by omega)] at h1 h2
  rw [call_eq pr 63 _ _ Try.f63 fn_63 _ rfl _ ann_63 rfl]
  simp -implicitDefEqProofs only [h1, h2, go_sem, Nat.reduceAdd, Nat.reduceSub, Nat.reduceMul, Nat.reduceMod, Nat.reduceLT, Nat.reduceLeDiff, Nat.reduceEqDiff, Nat.reduceBEq, Nat.reduceDiv, Int.reduceLT, Int.reduceLE, Int.reduceToNat, Int.reduceNeg, Int.reduceEq, ↓reduceIte, reduceCtorEq, ↓reduceDIte]
abbrev quot (a b : Nat) : AV := .tuple [I (IntKind.i64.wrap ((a : Int).tdiv (Nat.gcd a b : Nat))), I (IntKind.i64.wrap ((b : Int).tdiv (Nat.gcd a b : Nat))), B true]
theorem call_rr (a b : Nat) (ha : a ≤ 1000000000) (hb : 1 ≤ b ∧ b ≤ 1000000000) : callOf pr 33 [I a, I b] [] = some (quot a b, []) := by
  have h1 := call_ir a b ha hb
  have h2 := call_id a b
  have hg : ((Nat.gcd a b : Nat) : Int) ≠ 0 := by have := Nat.gcd_pos_of_pos_right a (show 0 < b by omega); omega
  unfold quot
  generalize Nat.gcd a b = g at *
  rw [call_eq pr 33 _ _ Try.f33 fn_33 _ rfl _ ann_33 rfl]
  simp -implicitDefEqProofs only [h1, h2, fa hg, go_sem, Nat.reduceAdd, Nat.reduceSub, Nat.reduceMul, Nat.reduceMod, Nat.reduceLT, Nat.reduceLeDiff, Nat.reduceEqDiff, Nat.reduceBEq, Nat.reduceDiv, Int.reduceLT, Int.reduceLE, Int.reduceToNat, Int.reduceNeg, Int.reduceEq, ↓reduceIte, reduceCtorEq, ↓reduceDIte]
theorem call_wy (hit : List (List Int)) (miss : List Int) : callOf pr 36 [.agg [LL hit, L miss]] [] = some (I miss.length, []) := by
  have h := call_43 miss
  rw [call_eq pr 36 _ _ Try.f36 fn_36 _ rfl _ ann_36 rfl]
  simp -implicitDefEqProofs only [h, go_sem, Nat.reduceAdd, Nat.reduceSub, Nat.reduceMul, Nat.reduceMod, Nat.reduceLT, Nat.reduceLeDiff, Nat.reduceEqDiff, Nat.reduceBEq, Nat.reduceDiv, Int.reduceLT, Int.reduceLE, Int.reduceToNat, Int.reduceNeg, Int.reduceEq, ↓reduceIte, reduceCtorEq, ↓reduceDIte]
theorem missB_pos (uses : List Int) (w : Nat) (h : uses ≠ []) : 1 ≤ missB (runB uses w 0 [] uses) := by
  cases uses with
  | nil => exact absurd rfl h
  | cons a l =>
    simp only [runB]
    rw [missB_cons]
    have : (stepB (a :: l) w 0 [] a).2.1 = false := by
      unfold stepB
      rw [if_neg (by simp)]
      split <;> rfl
    rw [this]
    simp
theorem missN_nat (hit : List (List Int)) (miss uses : List Int) (hb : uses.length ≤ 60) : ∃ a : Nat, a ≤ 60 ∧ missN (runC hit miss (emptyC miss) uses).1 = a := by
  have h1 := sum01 _ (runC_bits hit miss uses (emptyC miss))
  have h2 := (runC_length hit miss uses (emptyC miss)).1
  unfold missN
  exact ⟨((runC hit miss (emptyC miss) uses).1.length - (runC hit miss (emptyC miss) uses).1.sum : Int).toNat, by omega, by omega⟩
def ratC (hit : List (List Int)) (miss uses : List Int) : AV := if (fair hit miss uses && !decide (uses.length = 0)) = true then quot (missN (runC hit miss (emptyC miss) uses).1).toNat (missB (runB uses miss.length 0 [] uses)) else .tuple [I 0, I 0, B false]
theorem call_sro (hit : List (List Int)) (miss : List Int) (h1 : hit.length < 1000000000000000000) (h2 : miss.length < 1000000000000000000) (hc : ∀ l ∈ hit, l.length < 1000000000000000000) (uses : List Int) (hu : uses.length < 1000000000000000000) : callOf pr 7 [.agg [LL hit, L miss], L uses] [] = some (ratC hit miss uses, []) := by
  have g1 := call_is hit miss h1 h2 hc
  have g2 := call_su uses hu
  unfold ratC
  rw [call_eq pr 7 _ _ Try.f7 fn_7 _ rfl _ ann_7 rfl]
  cases hv : validP hit miss with
  | false =>
    rw [hv] at g1
    rw [if_neg (by simp [fair, hv])]
    simp -implicitDefEqProofs only [g1, go_sem, Nat.reduceAdd, Nat.reduceSub, Nat.reduceMul, Nat.reduceMod, Nat.reduceLT, Nat.reduceLeDiff, Nat.reduceEqDiff, Nat.reduceBEq, Nat.reduceDiv, Int.reduceLT, Int.reduceLE, Int.reduceToNat, Int.reduceNeg, Int.reduceEq, ↓reduceIte, reduceCtorEq, ↓reduceDIte]
  | true =>
    rw [hv] at g1
    cases hw : validU uses with
    | false =>
      rw [hw] at g2
      rw [if_neg (by simp [fair, hw])]
      simp -implicitDefEqProofs only [g1, g2, go_sem, Nat.reduceAdd, Nat.reduceSub, Nat.reduceMul, Nat.reduceMod, Nat.reduceLT, Nat.reduceLeDiff, Nat.reduceEqDiff, Nat.reduceBEq, Nat.reduceDiv, Int.reduceLT, Int.reduceLE, Int.reduceToNat, Int.reduceNeg, Int.reduceEq, ↓reduceIte, reduceCtorEq, ↓reduceDIte]
    | true =>
      rw [hw] at g2
      have hf : fair hit miss uses = true := by simp [fair, hv, hw]
      have hl := (fair_len hf).2
      by_cases h0 : uses.length = 0
      · have h0' : ((uses.length : Int) = 0) = True := tr (by omega)
        rw [if_neg (by simp [h0])]
        simp -implicitDefEqProofs only [g1, g2, h0', go_sem, Nat.reduceAdd, Nat.reduceSub, Nat.reduceMul, Nat.reduceMod, Nat.reduceLT, Nat.reduceLeDiff, Nat.reduceEqDiff, Nat.reduceBEq, Nat.reduceDiv, Int.reduceLT, Int.reduceLE, Int.reduceToNat, Int.reduceNeg, Int.reduceEq, ↓reduceIte, reduceCtorEq, ↓reduceDIte]
      · have h0' : ((uses.length : Int) = 0) = False := fa (by omega)
        obtain ⟨v1, v2, v3, v4, v5⟩ := validP_bound hv
        have g3 := call_smi hit miss hv uses (by omega)
        obtain ⟨a, ha, hma⟩ := missN_nat hit miss uses hl
        have g4 := call_sm uses hl miss.length (by omega)
        have hpos := missB_pos uses miss.length (fun e => h0 (by rw [e]; rfl))
        have hle := missB_le (runB uses miss.length 0 [] uses)
        rw [runB_length] at hle
        rw [if_pos (by simp [hf, h0])]
        rw [hma] at g3 ⊢
        rw [Int.toNat_natCast]
        generalize missB (runB uses miss.length 0 [] uses) = b at *
        have g5 := call_dv a b
        have hg : ((Nat.gcd a b : Nat) : Int) ≠ 0 := by have := Nat.gcd_pos_of_pos_right a (show 0 < b by omega); omega
        unfold quot
        generalize Nat.gcd a b = g at *
        simp -implicitDefEqProofs only [g1, g2, g3, g4, g5, h0', fa hg, go_sem, Nat.reduceAdd, Nat.reduceSub, Nat.reduceMul, Nat.reduceMod, Nat.reduceLT, Nat.reduceLeDiff, Nat.reduceEqDiff, Nat.reduceBEq, Nat.reduceDiv, Int.reduceLT, Int.reduceLE, Int.reduceToNat, Int.reduceNeg, Int.reduceEq, ↓reduceIte, reduceCtorEq, ↓reduceDIte]
theorem call_iro (hit : List (List Int)) (miss : List Int) (h1 : hit.length < 1000000000000000000) (h2 : miss.length < 1000000000000000000) (hc : ∀ l ∈ hit, l.length < 1000000000000000000) (uses : List Int) (hu : uses.length < 1000000000000000000) : callOf pr 10 [.agg [LL hit, L miss], L uses] [] = some (ratC hit miss uses, []) := by
  have g1 := call_vp hit miss h1 h2 hc
  have g2 := call_vu uses hu
  unfold ratC
  rw [call_eq pr 10 _ _ Try.f10 fn_10 _ rfl _ ann_10 rfl]
  cases hv : validP hit miss with
  | false =>
    rw [hv] at g1
    rw [if_neg (by simp [fair, hv])]
    simp -implicitDefEqProofs only [g1, go_sem, Nat.reduceAdd, Nat.reduceSub, Nat.reduceMul, Nat.reduceMod, Nat.reduceLT, Nat.reduceLeDiff, Nat.reduceEqDiff, Nat.reduceBEq, Nat.reduceDiv, Int.reduceLT, Int.reduceLE, Int.reduceToNat, Int.reduceNeg, Int.reduceEq, ↓reduceIte, reduceCtorEq, ↓reduceDIte]
  | true =>
    rw [hv] at g1
    cases hw : validU uses with
    | false =>
      rw [hw] at g2
      rw [if_neg (by simp [fair, hw])]
      simp -implicitDefEqProofs only [g1, g2, go_sem, Nat.reduceAdd, Nat.reduceSub, Nat.reduceMul, Nat.reduceMod, Nat.reduceLT, Nat.reduceLeDiff, Nat.reduceEqDiff, Nat.reduceBEq, Nat.reduceDiv, Int.reduceLT, Int.reduceLE, Int.reduceToNat, Int.reduceNeg, Int.reduceEq, ↓reduceIte, reduceCtorEq, ↓reduceDIte]
    | true =>
      rw [hw] at g2
      have hf : fair hit miss uses = true := by simp [fair, hv, hw]
      have hl := (fair_len hf).2
      by_cases h0 : uses.length = 0
      · have h0' : ((uses.length : Int) = 0) = True := tr (by omega)
        rw [if_neg (by simp [h0])]
        simp -implicitDefEqProofs only [g1, g2, h0', go_sem, Nat.reduceAdd, Nat.reduceSub, Nat.reduceMul, Nat.reduceMod, Nat.reduceLT, Nat.reduceLeDiff, Nat.reduceEqDiff, Nat.reduceBEq, Nat.reduceDiv, Int.reduceLT, Int.reduceLE, Int.reduceToNat, Int.reduceNeg, Int.reduceEq, ↓reduceIte, reduceCtorEq, ↓reduceDIte]
      · have h0' : ((uses.length : Int) = 0) = False := fa (by omega)
        obtain ⟨v1, v2, v3, v4, v5⟩ := validP_bound hv
        have hu63 : ∀ x ∈ uses, 0 ≤ x ∧ x ≤ 63 := by
          simp only [validU, Bool.and_eq_true, List.all_eq_true, addrB, decide_eq_true_eq] at hw
          exact hw.1
        have g3 := call_imi hit miss hv uses (by omega)
        obtain ⟨a, ha, hma⟩ := missN_nat hit miss uses hl
        have g4 := call_bm uses hl hu63 miss.length (by omega)
        have g6 := call_wy hit miss
        have hpos := missB_pos uses miss.length (fun e => h0 (by rw [e]; rfl))
        have hle := missB_le (runB uses miss.length 0 [] uses)
        rw [runB_length] at hle
        rw [if_pos (by simp [hf, h0])]
        rw [hma] at g3 ⊢
        rw [Int.toNat_natCast]
        generalize missB (runB uses miss.length 0 [] uses) = b at *
        have g5 := call_rr a b (by omega) (by omega)
        simp -implicitDefEqProofs only [g1, g2, g3, g4, g5, g6, h0', go_sem, Nat.reduceAdd, Nat.reduceSub, Nat.reduceMul, Nat.reduceMod, Nat.reduceLT, Nat.reduceLeDiff, Nat.reduceEqDiff, Nat.reduceBEq, Nat.reduceDiv, Int.reduceLT, Int.reduceLE, Int.reduceToNat, Int.reduceNeg, Int.reduceEq, ↓reduceIte, reduceCtorEq, ↓reduceDIte]
theorem law_ratio (hit : List (List Int)) (miss : List Int) (hx : Bd wide (.agg (.cons (.slice (.slice (.int .i64))) (.cons (.slice (.int .i64)) .nil))) (hit, miss, ())) (uses : List Int) (hu : Bd wide (.slice (.int .i64)) uses) : callOf pr 3 [.agg [LL hit, L miss], L uses] [] = some (B true, []) := by
  rw [call_eq pr 3 _ _ Try.f3 fn_3 _ rfl _ ann_3 rfl]
  by_cases gl : (uses.length : Int) > 1048576
  · simp -implicitDefEqProofs only [tr gl, go_sem, Nat.reduceAdd, Nat.reduceSub, Nat.reduceMul, Nat.reduceMod, Nat.reduceLT, Nat.reduceLeDiff, Nat.reduceEqDiff, Nat.reduceBEq, Nat.reduceDiv, Int.reduceLT, Int.reduceLE, Int.reduceToNat, Int.reduceNeg, Int.reduceEq, ↓reduceIte, reduceCtorEq, ↓reduceDIte]
  obtain ⟨r0, a0, b0, c0⟩ := sz_Policy (hit, miss, ()) hx 1048576 (by omega) (by omega)
  have a0 : callOf pr 6 [.agg [LL hit, L miss], I 1048576] [] = some (I r0, []) := a0
  by_cases g0 : r0 < 0
  · simp -implicitDefEqProofs only [fa gl, a0, tr g0, go_sem, Nat.reduceAdd, Nat.reduceSub, Nat.reduceMul, Nat.reduceMod, Nat.reduceLT, Nat.reduceLeDiff, Nat.reduceEqDiff, Nat.reduceBEq, Nat.reduceDiv, Int.reduceLT, Int.reduceLE, Int.reduceToNat, Int.reduceNeg, Int.reduceEq, ↓reduceIte, reduceCtorEq, ↓reduceDIte]
  have hxs : Bd small (.agg (.cons (.slice (.slice (.int .i64))) (.cons (.slice (.int .i64)) .nil))) (hit, miss, ()) := c0 (by omega)
  have hl1 : hit.length ≤ 1048576 := hxs.1.1
  have hl2 : miss.length ≤ 1048576 := hxs.2.1.1
  have hcl : ∀ l ∈ hit, l.length < 1000000000000000000 := fun l hl => by have : l.length ≤ 1048576 := (hxs.1.2 l hl).1; omega
  have t1 := to_Policy (hit, miss, ()) hxs
  have t2 := to_Int64S uses (by omega)
  have h1 := call_sro hit miss (by omega) (by omega) hcl uses (by omega)
  have h2 := call_iro hit miss (by omega) (by omega) hcl uses (by omega)
  have e1 := eq_Policy (hit, miss, ()) hx
  have e2 := eq_Int64S uses hu
  simp only at t1 e1
  unfold ratC quot at h1 h2
  cases hf : (fair hit miss uses && !decide (uses.length = 0)) with
  | false =>
    rw [hf, if_neg (by simp)] at h1 h2
    simp -implicitDefEqProofs only [fa gl, a0, fa g0, t1, t2, h1, h2, e1, e2, BEq.rfl, beq_self_eq_true, eq_self_iff_true, go_sem, Nat.reduceAdd, Nat.reduceSub, Nat.reduceMul, Nat.reduceMod, Nat.reduceLT, Nat.reduceLeDiff, Nat.reduceEqDiff, Nat.reduceBEq, Nat.reduceDiv, Int.reduceLT, Int.reduceLE, Int.reduceToNat, Int.reduceNeg, Int.reduceEq, ↓reduceIte, reduceCtorEq, ↓reduceDIte]
  | true =>
    rw [hf, if_pos rfl] at h1 h2
    simp -implicitDefEqProofs only [fa gl, a0, fa g0, t1, t2, h1, h2, e1, e2, BEq.rfl, beq_self_eq_true, eq_self_iff_true, go_sem, Nat.reduceAdd, Nat.reduceSub, Nat.reduceMul, Nat.reduceMod, Nat.reduceLT, Nat.reduceLeDiff, Nat.reduceEqDiff, Nat.reduceBEq, Nat.reduceDiv, Int.reduceLT, Int.reduceLE, Int.reduceToNat, Int.reduceNeg, Int.reduceEq, ↓reduceIte, reduceCtorEq, ↓reduceDIte]
end Go.Proofs.Yticbfkoialmojaa.PI
