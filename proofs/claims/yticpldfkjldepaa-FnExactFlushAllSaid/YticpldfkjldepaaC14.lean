/- Copies of spaces. -/
import Derived.Test.YticpldfkjldepaaC11
namespace Go.Proofs.Yticpldfkjldepaa.PI
open Go Go.Q
set_option maxRecDepth 100000
set_option maxHeartbeats 4000000
set_option linter.unusedSimpArgs false
set_option linter.unusedVariables false
theorem call_own (xs : List Int) (hl : xs.length < 2000000) : callOf pr 88 [L xs] [] = some (.os (.t 192), [(192, .arr true false (.int .i64) xs)]) := by
  have hroom : ((0 + xs.length) * 8 ≤ 140737488355328 ∧ 0 + xs.length ≤ 9223372036854775807) = True := tr (by omega)
  rw [call_eq pr 88 _ _ Try.f88 fn_88 _ rfl _ ann_88 rfl]
  simp -implicitDefEqProofs only [hroom, go_sem, Nat.reduceAdd, Nat.reduceSub, Nat.reduceMul, Nat.reduceMod, Nat.reduceLT, Nat.reduceLeDiff, Nat.reduceEqDiff, Nat.reduceBEq, Nat.reduceDiv, Int.reduceLT, Int.reduceLE, Int.reduceToNat, Int.reduceNeg, Int.reduceEq, ↓reduceIte, reduceCtorEq, ↓reduceDIte, Bool.false_eq_true, Bool.true_eq_false, ne_eq, not_true_eq_false, not_false_eq_true, Bool.true_or, Bool.false_or, Bool.or_true, Bool.or_false, Bool.true_and, Bool.false_and, Bool.and_true, Bool.and_false, Bool.not_true, Bool.not_false, Bool.not_eq_false', Bool.not_eq_true', and_true, true_and, and_false, false_and, or_true, true_or, or_false, false_or, and_self, or_self, decide_eq_true_eq, decide_true, decide_false, decide_eq_false_iff_not, ite_not, if_true, if_false, eq_self]
theorem loop_so (r : List Int) (b : List Ca) : ∀ (suf pre : List (List En)), pre.length + suf.length < 1000 → (∀ x ∈ suf, x.length < 2000000) →
    loopOf pr 35 0 ⟨[(0, .rp [L r, LLE (pre ++ suf), LC b]), (2, .op 128 0), (3, .op 192 0), (4, I pre.length)], [(128, .box [.nilS, .nilS, .nilS]), (576, .arr true false (.int .i64) r), (704, .arr true false tyC b), (640, .arr true true (.slice tyE) pre), (192, .box [.os (.t 576), .os (.t 640), .os (.t 704)])]⟩ = some (.exit 0, ⟨[(0, .rp [L r, LLE (pre ++ suf), LC b]), (2, .op 128 0), (3, .op 192 0), (4, I ((pre.length + suf.length : Nat) : Int))], [(128, .box [.nilS, .nilS, .nilS]), (576, .arr true false (.int .i64) r), (704, .arr true false tyC b), (640, .arr true true (.slice tyE) (pre ++ suf)), (192, .box [.os (.t 576), .os (.t 640), .os (.t 704)])]⟩)
  | [], pre, hb, hx => by
    rw [loop_eq pr 35 0 _ Try.f35 fn_35 _ rfl _ ann_35 _ rfl]
    simp -implicitDefEqProofs only [Int.lt_irrefl, List.append_nil, Nat.add_zero, go_sem, Nat.reduceAdd, Nat.reduceSub, Nat.reduceMul, Nat.reduceMod, Nat.reduceLT, Nat.reduceLeDiff, Nat.reduceEqDiff, Nat.reduceBEq, Nat.reduceDiv, Int.reduceLT, Int.reduceLE, Int.reduceToNat, Int.reduceNeg, Int.reduceEq, ↓reduceIte, reduceCtorEq, ↓reduceDIte, Bool.false_eq_true, Bool.true_eq_false, ne_eq, not_true_eq_false, not_false_eq_true, Bool.true_or, Bool.false_or, Bool.or_true, Bool.or_false, Bool.true_and, Bool.false_and, Bool.and_true, Bool.and_false, Bool.not_true, Bool.not_false, Bool.not_eq_false', Bool.not_eq_true', and_true, true_and, and_false, false_and, or_true, true_or, or_false, false_or, and_self, or_self, decide_eq_true_eq, decide_true, decide_false, decide_eq_false_iff_not, ite_not, if_true, if_false, eq_self]
  | x :: suf, pre, hb, hx => by
    simp only [List.length_cons] at hb
    have hx0 := hx x (by simp)
    have hw : IntKind.i64.wrap ((pre.length : Int) + 1) = ((pre.length + 1 : Nat) : Int) := by rw [wrap_i] <;> omega
    have hr1 : ((0 + x.length) * 16 ≤ 140737488355328 ∧ 0 + x.length ≤ 9223372036854775807) = True := tr (by omega)
    have hr2 : ((pre.length + 1) * 24 ≤ 140737488355328 ∧ pre.length ≤ 9223372036854775806) = True := tr (by omega)
    have ih := loop_so r b suf (pre ++ [x]) (by simp; omega) (fun y hy => hx y (by simp [hy]))
    have e1 : (pre ++ [x]).length = pre.length + 1 := by simp
    have e2 : pre.length + 1 + suf.length = pre.length + (x :: suf).length := by simp; omega
    rw [app_one, e1, e2] at ih
    rw [loop_eq pr 35 0 _ Try.f35 fn_35 _ rfl _ ann_35 _ rfl]
    simp -implicitDefEqProofs only [getD_app, lt_app, ltn_app, zero_le_cast, Int.toNat_natCast, hw, hr1, hr2, go_sem, Nat.reduceAdd, Nat.reduceSub, Nat.reduceMul, Nat.reduceMod, Nat.reduceLT, Nat.reduceLeDiff, Nat.reduceEqDiff, Nat.reduceBEq, Nat.reduceDiv, Int.reduceLT, Int.reduceLE, Int.reduceToNat, Int.reduceNeg, Int.reduceEq, ↓reduceIte, reduceCtorEq, ↓reduceDIte, Bool.false_eq_true, Bool.true_eq_false, ne_eq, not_true_eq_false, not_false_eq_true, Bool.true_or, Bool.false_or, Bool.or_true, Bool.or_false, Bool.true_and, Bool.false_and, Bool.and_true, Bool.and_false, Bool.not_true, Bool.not_false, Bool.not_eq_false', Bool.not_eq_true', and_true, true_and, and_false, false_and, or_true, true_or, or_false, false_or, and_self, or_self, decide_eq_true_eq, decide_true, decide_false, decide_eq_false_iff_not, ite_not, if_true, if_false, eq_self]
    exact ih
theorem call_so (r : List Int) (t : List (List En)) (b : List Ca) (hr : r.length < 2000000) (ht : t.length < 1000) (hx : ∀ x ∈ t, x.length < 2000000) (hb : b.length < 2000000) : callOf pr 35 [.rp [L r, LLE t, LC b]] [] = some (.agg [.os (.t 576), .os (.t 640), .os (.t 704)], [(576, .arr true false (.int .i64) r), (704, .arr true false tyC b), (640, .arr true true (.slice tyE) t)]) := by
  have h := call_own r hr
  have hroom : ((0 + b.length) * 24 ≤ 140737488355328 ∧ 0 + b.length ≤ 9223372036854775807) = True := tr (by omega)
  have h2 := loop_so r b t [] (by simp; omega) hx
  simp only [List.nil_append, List.length_nil] at h2
  have h2 : loopOf pr 35 0 ⟨[(0, .rp [L r, LLE t, LC b]), (2, .op 128 0), (3, .op 192 0), (4, I 0)], [(128, .box [.nilS, .nilS, .nilS]), (576, .arr true false (.int .i64) r), (704, .arr true false tyC b), (640, .arr true true (.slice tyE) []), (192, .box [.os (.t 576), .os (.t 640), .os (.t 704)])]⟩ = _ := h2
  rw [call_eq pr 35 _ _ Try.f35 fn_35 _ rfl _ ann_35 rfl]
  simp -implicitDefEqProofs only [h, hroom, h2, go_sem, Nat.reduceAdd, Nat.reduceSub, Nat.reduceMul, Nat.reduceMod, Nat.reduceLT, Nat.reduceLeDiff, Nat.reduceEqDiff, Nat.reduceBEq, Nat.reduceDiv, Int.reduceLT, Int.reduceLE, Int.reduceToNat, Int.reduceNeg, Int.reduceEq, ↓reduceIte, reduceCtorEq, ↓reduceDIte, Bool.false_eq_true, Bool.true_eq_false, ne_eq, not_true_eq_false, not_false_eq_true, Bool.true_or, Bool.false_or, Bool.or_true, Bool.or_false, Bool.true_and, Bool.false_and, Bool.and_true, Bool.and_false, Bool.not_true, Bool.not_false, Bool.not_eq_false', Bool.not_eq_true', and_true, true_and, and_false, false_and, or_true, true_or, or_false, false_or, and_self, or_self, decide_eq_true_eq, decide_true, decide_false, decide_eq_false_iff_not, ite_not, if_true, if_false, eq_self]
theorem clone_tab (x : List En) (h8 : x.length = 8) : callOf pr 92 [LE x] [] = some (.os (.t 64), [(64, .arr true false tyE x)]) := by
  rw [call_cle x (by omega)]
  simp only [cloneV, if_neg (show ¬ x.length = 0 by omega)]
theorem loop_cn02 (r : List Int) : ∀ (suf pre : List (List En)), pre.length + suf.length < 1000 → (∀ x ∈ suf, x.length = 8) →
    loopOf pr 39 0 ⟨[(2, .op 128 0), (3, .op 192 0), (14, LLE (pre ++ suf)), (15, I ((pre.length + suf.length : Nat) : Int)), (16, I pre.length)], [(128, .box [.nilS, .nilS, .nilS]), (512, .arr true false (.int .i64) r), (192, .box [.os (.t 512), .os (.t 1600), LC []]), (1600, .arr true true (.slice tyE) pre)]⟩ = some (.exit 0, ⟨[(2, .op 128 0), (3, .op 192 0), (14, LLE (pre ++ suf)), (15, I ((pre.length + suf.length : Nat) : Int)), (16, I ((pre.length + suf.length : Nat) : Int))], [(128, .box [.nilS, .nilS, .nilS]), (512, .arr true false (.int .i64) r), (192, .box [.os (.t 512), .os (.t 1600), LC []]), (1600, .arr true true (.slice tyE) (pre ++ suf))]⟩)
  | [], pre, hb, hx => by
    rw [loop_eq pr 39 0 _ Try.f39 fn_39 _ rfl _ ann_39 _ rfl]
    simp -implicitDefEqProofs only [Int.lt_irrefl, List.append_nil, Nat.add_zero, List.length_nil, go_sem, Nat.reduceAdd, Nat.reduceSub, Nat.reduceMul, Nat.reduceMod, Nat.reduceLT, Nat.reduceLeDiff, Nat.reduceEqDiff, Nat.reduceBEq, Nat.reduceDiv, Int.reduceLT, Int.reduceLE, Int.reduceToNat, Int.reduceNeg, Int.reduceEq, ↓reduceIte, reduceCtorEq, ↓reduceDIte, Bool.false_eq_true, Bool.true_eq_false, ne_eq, not_true_eq_false, not_false_eq_true, Bool.true_or, Bool.false_or, Bool.or_true, Bool.or_false, Bool.true_and, Bool.false_and, Bool.and_true, Bool.and_false, Bool.not_true, Bool.not_false, Bool.not_eq_false', Bool.not_eq_true', and_true, true_and, and_false, false_and, or_true, true_or, or_false, false_or, and_self, or_self, decide_eq_true_eq, decide_true, decide_false, decide_eq_false_iff_not, ite_not, if_true, if_false, eq_self]
  | x :: suf, pre, hb, hx => by
    simp only [List.length_cons] at hb ⊢
    have hw : IntKind.i64.wrap ((pre.length : Int) + 1) = ((pre.length + 1 : Nat) : Int) := by rw [wrap_i] <;> omega
    have hlt : ((pre.length : Int) < ((pre.length + (suf.length + 1) : Nat) : Int)) = True := tr (by omega)
    have hr2 : ((pre.length + 1) * 24 ≤ 140737488355328 ∧ pre.length ≤ 9223372036854775806) = True := tr (by omega)
    have h := clone_tab x (hx x (by simp))
    have ih := loop_cn02 r suf (pre ++ [x]) (by simp; omega) (fun y hy => hx y (by simp [hy]))
    have e1 : (pre ++ [x]).length = pre.length + 1 := by simp
    have e2 : pre.length + 1 + suf.length = pre.length + (suf.length + 1) := by omega
    rw [app_one, e1, e2] at ih
    rw [loop_eq pr 39 0 _ Try.f39 fn_39 _ rfl _ ann_39 _ rfl]
    simp -implicitDefEqProofs only [getD_app, lt_app, ltn_app, zero_le_cast, Int.toNat_natCast, hw, hlt, hr2, h, go_sem, Nat.reduceAdd, Nat.reduceSub, Nat.reduceMul, Nat.reduceMod, Nat.reduceLT, Nat.reduceLeDiff, Nat.reduceEqDiff, Nat.reduceBEq, Nat.reduceDiv, Int.reduceLT, Int.reduceLE, Int.reduceToNat, Int.reduceNeg, Int.reduceEq, ↓reduceIte, reduceCtorEq, ↓reduceDIte, Bool.false_eq_true, Bool.true_eq_false, ne_eq, not_true_eq_false, not_false_eq_true, Bool.true_or, Bool.false_or, Bool.or_true, Bool.or_false, Bool.true_and, Bool.false_and, Bool.and_true, Bool.and_false, Bool.not_true, Bool.not_false, Bool.not_eq_false', Bool.not_eq_true', and_true, true_and, and_false, false_and, or_true, true_or, or_false, false_or, and_self, or_self, decide_eq_true_eq, decide_true, decide_false, decide_eq_false_iff_not, ite_not, if_true, if_false, eq_self]
    exact ih
theorem loop_cn12 (r : List Int) (b : List Ca) : ∀ (suf pre : List (List En)), pre.length + suf.length < 1000 → (∀ x ∈ suf, x.length = 8) →
    loopOf pr 39 0 ⟨[(2, .op 128 0), (3, .op 192 0), (14, LLE (pre ++ suf)), (15, I ((pre.length + suf.length : Nat) : Int)), (16, I pre.length)], [(128, .box [.nilS, .nilS, .nilS]), (512, .arr true false (.int .i64) r), (704, .arr true false tyC b), (192, .box [.os (.t 512), .os (.t 1600), .os (.t 704)]), (1600, .arr true true (.slice tyE) pre)]⟩ = some (.exit 0, ⟨[(2, .op 128 0), (3, .op 192 0), (14, LLE (pre ++ suf)), (15, I ((pre.length + suf.length : Nat) : Int)), (16, I ((pre.length + suf.length : Nat) : Int))], [(128, .box [.nilS, .nilS, .nilS]), (512, .arr true false (.int .i64) r), (704, .arr true false tyC b), (192, .box [.os (.t 512), .os (.t 1600), .os (.t 704)]), (1600, .arr true true (.slice tyE) (pre ++ suf))]⟩)
  | [], pre, hb, hx => by
    rw [loop_eq pr 39 0 _ Try.f39 fn_39 _ rfl _ ann_39 _ rfl]
    simp -implicitDefEqProofs only [Int.lt_irrefl, List.append_nil, Nat.add_zero, List.length_nil, go_sem, Nat.reduceAdd, Nat.reduceSub, Nat.reduceMul, Nat.reduceMod, Nat.reduceLT, Nat.reduceLeDiff, Nat.reduceEqDiff, Nat.reduceBEq, Nat.reduceDiv, Int.reduceLT, Int.reduceLE, Int.reduceToNat, Int.reduceNeg, Int.reduceEq, ↓reduceIte, reduceCtorEq, ↓reduceDIte, Bool.false_eq_true, Bool.true_eq_false, ne_eq, not_true_eq_false, not_false_eq_true, Bool.true_or, Bool.false_or, Bool.or_true, Bool.or_false, Bool.true_and, Bool.false_and, Bool.and_true, Bool.and_false, Bool.not_true, Bool.not_false, Bool.not_eq_false', Bool.not_eq_true', and_true, true_and, and_false, false_and, or_true, true_or, or_false, false_or, and_self, or_self, decide_eq_true_eq, decide_true, decide_false, decide_eq_false_iff_not, ite_not, if_true, if_false, eq_self]
  | x :: suf, pre, hb, hx => by
    simp only [List.length_cons] at hb ⊢
    have hw : IntKind.i64.wrap ((pre.length : Int) + 1) = ((pre.length + 1 : Nat) : Int) := by rw [wrap_i] <;> omega
    have hlt : ((pre.length : Int) < ((pre.length + (suf.length + 1) : Nat) : Int)) = True := tr (by omega)
    have hr2 : ((pre.length + 1) * 24 ≤ 140737488355328 ∧ pre.length ≤ 9223372036854775806) = True := tr (by omega)
    have h := clone_tab x (hx x (by simp))
    have ih := loop_cn12 r b suf (pre ++ [x]) (by simp; omega) (fun y hy => hx y (by simp [hy]))
    have e1 : (pre ++ [x]).length = pre.length + 1 := by simp
    have e2 : pre.length + 1 + suf.length = pre.length + (suf.length + 1) := by omega
    rw [app_one, e1, e2] at ih
    rw [loop_eq pr 39 0 _ Try.f39 fn_39 _ rfl _ ann_39 _ rfl]
    simp -implicitDefEqProofs only [getD_app, lt_app, ltn_app, zero_le_cast, Int.toNat_natCast, hw, hlt, hr2, h, go_sem, Nat.reduceAdd, Nat.reduceSub, Nat.reduceMul, Nat.reduceMod, Nat.reduceLT, Nat.reduceLeDiff, Nat.reduceEqDiff, Nat.reduceBEq, Nat.reduceDiv, Int.reduceLT, Int.reduceLE, Int.reduceToNat, Int.reduceNeg, Int.reduceEq, ↓reduceIte, reduceCtorEq, ↓reduceDIte, Bool.false_eq_true, Bool.true_eq_false, ne_eq, not_true_eq_false, not_false_eq_true, Bool.true_or, Bool.false_or, Bool.or_true, Bool.or_false, Bool.true_and, Bool.false_and, Bool.and_true, Bool.and_false, Bool.not_true, Bool.not_false, Bool.not_eq_false', Bool.not_eq_true', and_true, true_and, and_false, false_and, or_true, true_or, or_false, false_or, and_self, or_self, decide_eq_true_eq, decide_true, decide_false, decide_eq_false_iff_not, ite_not, if_true, if_false, eq_self]
    exact ih
theorem clone_root (r : List Int) (h8 : r.length = 8) : callOf pr 72 [L r] [] = some (.os (.t 64), [(64, .arr true false (.int .i64) r)]) := by
  rw [call_cli r (by omega)]
  simp only [cloneV, if_neg (show ¬ r.length = 0 by omega)]
theorem clone_buf (b : List Ca) (h0 : ¬ b.length = 0) (h : b.length < 2000000) : callOf pr 91 [LC b] [] = some (.os (.t 64), [(64, .arr true false tyC b)]) := by
  rw [call_clc b (by omega)]
  simp only [cloneV, if_neg h0]
theorem clone_buf0 : callOf pr 91 [LC []] [] = some (LC [], []) := by
  rw [call_clc [] (by simp)]
  rfl
theorem call_cn0_nil (r : List Int) (h8 : r.length = 8) : callOf pr 39 [.agg [L r, LLE [], LC []]] [] = some (.agg [.os (.t 512), .nilS, LC []], [(512, .arr true false (.int .i64) r)]) := by
  have h1 := clone_root r h8
  have h2 := clone_buf0
  have h : loopOf pr 39 0 ⟨[(2, .op 128 0), (3, .op 192 0), (14, LLE []), (15, I 0), (16, I 0)], [(128, .box [.nilS, .nilS, .nilS]), (512, .arr true false (.int .i64) r), (192, .box [.os (.t 512), .nilS, LC []])]⟩ = some (.exit 0, ⟨[(2, .op 128 0), (3, .op 192 0), (14, LLE []), (15, I 0), (16, I 0)], [(128, .box [.nilS, .nilS, .nilS]), (512, .arr true false (.int .i64) r), (192, .box [.os (.t 512), .nilS, LC []])]⟩) := by
    rw [loop_eq pr 39 0 _ Try.f39 fn_39 _ rfl _ ann_39 _ rfl]
    simp -implicitDefEqProofs only [Int.lt_irrefl, go_sem, Nat.reduceAdd, Nat.reduceSub, Nat.reduceMul, Nat.reduceMod, Nat.reduceLT, Nat.reduceLeDiff, Nat.reduceEqDiff, Nat.reduceBEq, Nat.reduceDiv, Int.reduceLT, Int.reduceLE, Int.reduceToNat, Int.reduceNeg, Int.reduceEq, ↓reduceIte, reduceCtorEq, ↓reduceDIte, Bool.false_eq_true, Bool.true_eq_false, ne_eq, not_true_eq_false, not_false_eq_true, Bool.true_or, Bool.false_or, Bool.or_true, Bool.or_false, Bool.true_and, Bool.false_and, Bool.and_true, Bool.and_false, Bool.not_true, Bool.not_false, Bool.not_eq_false', Bool.not_eq_true', and_true, true_and, and_false, false_and, or_true, true_or, or_false, false_or, and_self, or_self, decide_eq_true_eq, decide_true, decide_false, decide_eq_false_iff_not, ite_not, if_true, if_false, eq_self]
  rw [call_eq pr 39 _ _ Try.f39 fn_39 _ rfl _ ann_39 rfl]
  simp -implicitDefEqProofs only [h1, h2, Int.natCast_zero, h, go_sem, Nat.reduceAdd, Nat.reduceSub, Nat.reduceMul, Nat.reduceMod, Nat.reduceLT, Nat.reduceLeDiff, Nat.reduceEqDiff, Nat.reduceBEq, Nat.reduceDiv, Int.reduceLT, Int.reduceLE, Int.reduceToNat, Int.reduceNeg, Int.reduceEq, ↓reduceIte, reduceCtorEq, ↓reduceDIte, Bool.false_eq_true, Bool.true_eq_false, ne_eq, not_true_eq_false, not_false_eq_true, Bool.true_or, Bool.false_or, Bool.or_true, Bool.or_false, Bool.true_and, Bool.false_and, Bool.and_true, Bool.and_false, Bool.not_true, Bool.not_false, Bool.not_eq_false', Bool.not_eq_true', and_true, true_and, and_false, false_and, or_true, true_or, or_false, false_or, and_self, or_self, decide_eq_true_eq, decide_true, decide_false, decide_eq_false_iff_not, ite_not, if_true, if_false, eq_self]
theorem call_cn0_cons (r : List Int) (h8 : r.length = 8) (x : List En) (t : List (List En)) (ht : t.length < 900) (hx : ∀ y ∈ x :: t, y.length = 8) : callOf pr 39 [.agg [L r, LLE (x :: t), LC []]] [] = some (.agg [.os (.t 512), .os (.t 1600), LC []], [(512, .arr true false (.int .i64) r), (1600, .arr true true (.slice tyE) (x :: t))]) := by
  have h1 := clone_root r h8
  have h2 := clone_buf0
  have h3 := clone_tab x (hx x (by simp))
  have ih := loop_cn02 r t [x] (by simp; omega) (fun y hy => hx y (by simp [hy]))
  simp only [List.cons_append, List.nil_append, List.length_cons, List.length_nil, Nat.zero_add] at ih
  have hc : (1 : Nat) + t.length = t.length + 1 := by omega
  rw [hc] at ih
  have hlt : ((0 : Int) < ((t.length + 1 : Nat) : Int)) = True := tr (by omega)
  have hlt2 : (0 < t.length + 1) = True := tr (by omega)
  have h : loopOf pr 39 0 ⟨[(2, .op 128 0), (3, .op 192 0), (14, LLE (x :: t)), (15, I ((t.length + 1 : Nat) : Int)), (16, I 0)], [(128, .box [.nilS, .nilS, .nilS]), (512, .arr true false (.int .i64) r), (192, .box [.os (.t 512), .nilS, LC []])]⟩ = some (.exit 0, ⟨[(2, .op 128 0), (3, .op 192 0), (14, LLE (x :: t)), (15, I ((t.length + 1 : Nat) : Int)), (16, I ((t.length + 1 : Nat) : Int))], [(128, .box [.nilS, .nilS, .nilS]), (512, .arr true false (.int .i64) r), (192, .box [.os (.t 512), .os (.t 1600), LC []]), (1600, .arr true true (.slice tyE) (x :: t))]⟩) := by
    have w1 : IntKind.i64.wrap (0 + 1) = ((1 : Nat) : Int) := by rw [wrap_i] <;> omega
    rw [loop_eq pr 39 0 _ Try.f39 fn_39 _ rfl _ ann_39 _ rfl]
    simp -implicitDefEqProofs only [hlt, hlt2, h3, w1, List.getD_cons_zero, Int.le_refl, go_sem, Nat.reduceAdd, Nat.reduceSub, Nat.reduceMul, Nat.reduceMod, Nat.reduceLT, Nat.reduceLeDiff, Nat.reduceEqDiff, Nat.reduceBEq, Nat.reduceDiv, Int.reduceLT, Int.reduceLE, Int.reduceToNat, Int.reduceNeg, Int.reduceEq, ↓reduceIte, reduceCtorEq, ↓reduceDIte, Bool.false_eq_true, Bool.true_eq_false, ne_eq, not_true_eq_false, not_false_eq_true, Bool.true_or, Bool.false_or, Bool.or_true, Bool.or_false, Bool.true_and, Bool.false_and, Bool.and_true, Bool.and_false, Bool.not_true, Bool.not_false, Bool.not_eq_false', Bool.not_eq_true', and_true, true_and, and_false, false_and, or_true, true_or, or_false, false_or, and_self, or_self, decide_eq_true_eq, decide_true, decide_false, decide_eq_false_iff_not, ite_not, if_true, if_false, eq_self]
    exact ih
  rw [call_eq pr 39 _ _ Try.f39 fn_39 _ rfl _ ann_39 rfl]
  simp -implicitDefEqProofs only [h1, h2, h, go_sem, Nat.reduceAdd, Nat.reduceSub, Nat.reduceMul, Nat.reduceMod, Nat.reduceLT, Nat.reduceLeDiff, Nat.reduceEqDiff, Nat.reduceBEq, Nat.reduceDiv, Int.reduceLT, Int.reduceLE, Int.reduceToNat, Int.reduceNeg, Int.reduceEq, ↓reduceIte, reduceCtorEq, ↓reduceDIte, Bool.false_eq_true, Bool.true_eq_false, ne_eq, not_true_eq_false, not_false_eq_true, Bool.true_or, Bool.false_or, Bool.or_true, Bool.or_false, Bool.true_and, Bool.false_and, Bool.and_true, Bool.and_false, Bool.not_true, Bool.not_false, Bool.not_eq_false', Bool.not_eq_true', and_true, true_and, and_false, false_and, or_true, true_or, or_false, false_or, and_self, or_self, decide_eq_true_eq, decide_true, decide_false, decide_eq_false_iff_not, ite_not, if_true, if_false, eq_self]
theorem call_cn1_nil (r : List Int) (h8 : r.length = 8) (b : List Ca) (h0 : ¬ b.length = 0) (hb : b.length < 2000000) : callOf pr 39 [.agg [L r, LLE [], LC b]] [] = some (.agg [.os (.t 512), .nilS, .os (.t 704)], [(512, .arr true false (.int .i64) r), (704, .arr true false tyC b)]) := by
  have h1 := clone_root r h8
  have h2 := clone_buf b h0 hb
  have h : loopOf pr 39 0 ⟨[(2, .op 128 0), (3, .op 192 0), (14, LLE []), (15, I 0), (16, I 0)], [(128, .box [.nilS, .nilS, .nilS]), (512, .arr true false (.int .i64) r), (704, .arr true false tyC b), (192, .box [.os (.t 512), .nilS, .os (.t 704)])]⟩ = some (.exit 0, ⟨[(2, .op 128 0), (3, .op 192 0), (14, LLE []), (15, I 0), (16, I 0)], [(128, .box [.nilS, .nilS, .nilS]), (512, .arr true false (.int .i64) r), (704, .arr true false tyC b), (192, .box [.os (.t 512), .nilS, .os (.t 704)])]⟩) := by
    rw [loop_eq pr 39 0 _ Try.f39 fn_39 _ rfl _ ann_39 _ rfl]
    simp -implicitDefEqProofs only [Int.lt_irrefl, go_sem, Nat.reduceAdd, Nat.reduceSub, Nat.reduceMul, Nat.reduceMod, Nat.reduceLT, Nat.reduceLeDiff, Nat.reduceEqDiff, Nat.reduceBEq, Nat.reduceDiv, Int.reduceLT, Int.reduceLE, Int.reduceToNat, Int.reduceNeg, Int.reduceEq, ↓reduceIte, reduceCtorEq, ↓reduceDIte, Bool.false_eq_true, Bool.true_eq_false, ne_eq, not_true_eq_false, not_false_eq_true, Bool.true_or, Bool.false_or, Bool.or_true, Bool.or_false, Bool.true_and, Bool.false_and, Bool.and_true, Bool.and_false, Bool.not_true, Bool.not_false, Bool.not_eq_false', Bool.not_eq_true', and_true, true_and, and_false, false_and, or_true, true_or, or_false, false_or, and_self, or_self, decide_eq_true_eq, decide_true, decide_false, decide_eq_false_iff_not, ite_not, if_true, if_false, eq_self]
  rw [call_eq pr 39 _ _ Try.f39 fn_39 _ rfl _ ann_39 rfl]
  simp -implicitDefEqProofs only [h1, h2, Int.natCast_zero, h, go_sem, Nat.reduceAdd, Nat.reduceSub, Nat.reduceMul, Nat.reduceMod, Nat.reduceLT, Nat.reduceLeDiff, Nat.reduceEqDiff, Nat.reduceBEq, Nat.reduceDiv, Int.reduceLT, Int.reduceLE, Int.reduceToNat, Int.reduceNeg, Int.reduceEq, ↓reduceIte, reduceCtorEq, ↓reduceDIte, Bool.false_eq_true, Bool.true_eq_false, ne_eq, not_true_eq_false, not_false_eq_true, Bool.true_or, Bool.false_or, Bool.or_true, Bool.or_false, Bool.true_and, Bool.false_and, Bool.and_true, Bool.and_false, Bool.not_true, Bool.not_false, Bool.not_eq_false', Bool.not_eq_true', and_true, true_and, and_false, false_and, or_true, true_or, or_false, false_or, and_self, or_self, decide_eq_true_eq, decide_true, decide_false, decide_eq_false_iff_not, ite_not, if_true, if_false, eq_self]
theorem call_cn1_cons (r : List Int) (h8 : r.length = 8) (b : List Ca) (h0 : ¬ b.length = 0) (hb : b.length < 2000000) (x : List En) (t : List (List En)) (ht : t.length < 900) (hx : ∀ y ∈ x :: t, y.length = 8) : callOf pr 39 [.agg [L r, LLE (x :: t), LC b]] [] = some (.agg [.os (.t 512), .os (.t 1600), .os (.t 704)], [(512, .arr true false (.int .i64) r), (704, .arr true false tyC b), (1600, .arr true true (.slice tyE) (x :: t))]) := by
  have h1 := clone_root r h8
  have h2 := clone_buf b h0 hb
  have h3 := clone_tab x (hx x (by simp))
  have ih := loop_cn12 r b t [x] (by simp; omega) (fun y hy => hx y (by simp [hy]))
  simp only [List.cons_append, List.nil_append, List.length_cons, List.length_nil, Nat.zero_add] at ih
  have hc : (1 : Nat) + t.length = t.length + 1 := by omega
  rw [hc] at ih
  have hlt : ((0 : Int) < ((t.length + 1 : Nat) : Int)) = True := tr (by omega)
  have hlt2 : (0 < t.length + 1) = True := tr (by omega)
  have h : loopOf pr 39 0 ⟨[(2, .op 128 0), (3, .op 192 0), (14, LLE (x :: t)), (15, I ((t.length + 1 : Nat) : Int)), (16, I 0)], [(128, .box [.nilS, .nilS, .nilS]), (512, .arr true false (.int .i64) r), (704, .arr true false tyC b), (192, .box [.os (.t 512), .nilS, .os (.t 704)])]⟩ = some (.exit 0, ⟨[(2, .op 128 0), (3, .op 192 0), (14, LLE (x :: t)), (15, I ((t.length + 1 : Nat) : Int)), (16, I ((t.length + 1 : Nat) : Int))], [(128, .box [.nilS, .nilS, .nilS]), (512, .arr true false (.int .i64) r), (704, .arr true false tyC b), (192, .box [.os (.t 512), .os (.t 1600), .os (.t 704)]), (1600, .arr true true (.slice tyE) (x :: t))]⟩) := by
    have w1 : IntKind.i64.wrap (0 + 1) = ((1 : Nat) : Int) := by rw [wrap_i] <;> omega
    rw [loop_eq pr 39 0 _ Try.f39 fn_39 _ rfl _ ann_39 _ rfl]
    simp -implicitDefEqProofs only [hlt, hlt2, h3, w1, List.getD_cons_zero, Int.le_refl, go_sem, Nat.reduceAdd, Nat.reduceSub, Nat.reduceMul, Nat.reduceMod, Nat.reduceLT, Nat.reduceLeDiff, Nat.reduceEqDiff, Nat.reduceBEq, Nat.reduceDiv, Int.reduceLT, Int.reduceLE, Int.reduceToNat, Int.reduceNeg, Int.reduceEq, ↓reduceIte, reduceCtorEq, ↓reduceDIte, Bool.false_eq_true, Bool.true_eq_false, ne_eq, not_true_eq_false, not_false_eq_true, Bool.true_or, Bool.false_or, Bool.or_true, Bool.or_false, Bool.true_and, Bool.false_and, Bool.and_true, Bool.and_false, Bool.not_true, Bool.not_false, Bool.not_eq_false', Bool.not_eq_true', and_true, true_and, and_false, false_and, or_true, true_or, or_false, false_or, and_self, or_self, decide_eq_true_eq, decide_true, decide_false, decide_eq_false_iff_not, ite_not, if_true, if_false, eq_self]
    exact ih
  rw [call_eq pr 39 _ _ Try.f39 fn_39 _ rfl _ ann_39 rfl]
  simp -implicitDefEqProofs only [h1, h2, h, go_sem, Nat.reduceAdd, Nat.reduceSub, Nat.reduceMul, Nat.reduceMod, Nat.reduceLT, Nat.reduceLeDiff, Nat.reduceEqDiff, Nat.reduceBEq, Nat.reduceDiv, Int.reduceLT, Int.reduceLE, Int.reduceToNat, Int.reduceNeg, Int.reduceEq, ↓reduceIte, reduceCtorEq, ↓reduceDIte, Bool.false_eq_true, Bool.true_eq_false, ne_eq, not_true_eq_false, not_false_eq_true, Bool.true_or, Bool.false_or, Bool.or_true, Bool.or_false, Bool.true_and, Bool.false_and, Bool.and_true, Bool.and_false, Bool.not_true, Bool.not_false, Bool.not_eq_false', Bool.not_eq_true', and_true, true_and, and_false, false_and, or_true, true_or, or_false, false_or, and_self, or_self, decide_eq_true_eq, decide_true, decide_false, decide_eq_false_iff_not, ite_not, if_true, if_false, eq_self]
theorem call_sf (r : List Int) (t : List (List En)) (b : List Ca) (hb : b.length < 2000000) : callOf pr 10 [.agg [L r, LLE t, LC b]] [] = if specS r t b = true then some (.tuple [.agg [.os (.t 512), .os (.t 514), .os (.t 576)], B true], [(512, .arr true false (.int .i64) r), (514, .arr true true (.slice tyE) t), (576, .arr true false tyC [])]) else some (.tuple [.agg [.nilS, .nilS, .nilS], B false], []) := by
  have h1 := call_si r t b
  rw [call_eq pr 10 _ _ Try.f10 fn_10 _ rfl _ ann_10 rfl]
  cases hs : specS r t b with
  | true =>
    rw [hs] at h1
    have ht : tabB r t = true := by
      simp only [specS, Bool.and_eq_true] at hs
      exact hs.1.1.1
    obtain ⟨s1, s2, s3, s4⟩ := tabB_spec ht
    have h2 := call_so r t b (by omega) (by omega) (fun x hx' => by rw [s3 x hx']; omega) hb
    rw [if_pos rfl]
    simp -implicitDefEqProofs only [h1, h2, go_sem, Nat.reduceAdd, Nat.reduceSub, Nat.reduceMul, Nat.reduceMod, Nat.reduceLT, Nat.reduceLeDiff, Nat.reduceEqDiff, Nat.reduceBEq, Nat.reduceDiv, Int.reduceLT, Int.reduceLE, Int.reduceToNat, Int.reduceNeg, Int.reduceEq, ↓reduceIte, reduceCtorEq, ↓reduceDIte, Bool.false_eq_true, Bool.true_eq_false, ne_eq, not_true_eq_false, not_false_eq_true, Bool.true_or, Bool.false_or, Bool.or_true, Bool.or_false, Bool.true_and, Bool.false_and, Bool.and_true, Bool.and_false, Bool.not_true, Bool.not_false, Bool.not_eq_false', Bool.not_eq_true', and_true, true_and, and_false, false_and, or_true, true_or, or_false, false_or, and_self, or_self, decide_eq_true_eq, decide_true, decide_false, decide_eq_false_iff_not, ite_not, if_true, if_false, eq_self]
  | false =>
    rw [hs] at h1
    rw [if_neg (by simp)]
    simp -implicitDefEqProofs only [h1, go_sem, Nat.reduceAdd, Nat.reduceSub, Nat.reduceMul, Nat.reduceMod, Nat.reduceLT, Nat.reduceLeDiff, Nat.reduceEqDiff, Nat.reduceBEq, Nat.reduceDiv, Int.reduceLT, Int.reduceLE, Int.reduceToNat, Int.reduceNeg, Int.reduceEq, ↓reduceIte, reduceCtorEq, ↓reduceDIte, Bool.false_eq_true, Bool.true_eq_false, ne_eq, not_true_eq_false, not_false_eq_true, Bool.true_or, Bool.false_or, Bool.or_true, Bool.or_false, Bool.true_and, Bool.false_and, Bool.and_true, Bool.and_false, Bool.not_true, Bool.not_false, Bool.not_eq_false', Bool.not_eq_true', and_true, true_and, and_false, false_and, or_true, true_or, or_false, false_or, and_self, or_self, decide_eq_true_eq, decide_true, decide_false, decide_eq_false_iff_not, ite_not, if_true, if_false, eq_self]
/-- Where the given program leaves a space without a buffer. -/
theorem call_ifl (r : List Int) (t : List (List En)) (b : List Ca) (hr : r.length < 2000000) (ht : t.length < 2000000) (hx : ∀ x ∈ t, x.length < 2000000) (hb : b.length < 2000000) : if specS r t b = true then
      (t = [] ∧ callOf pr 12 [.agg [L r, LLE t, LC b]] [] = some (.tuple [.agg [.os (.t 640), .nilS, .nilS], B true], [(640, .arr true false (.int .i64) r)])) ∨
      (∃ k, (k = 641 ∨ k = 642) ∧ callOf pr 12 [.agg [L r, LLE t, LC b]] [] = some (.tuple [.agg [.os (.t 640), .os (.t k), .nilS], B true], [(640, .arr true false (.int .i64) r), (k, .arr true true (.slice tyE) t)]))
    else callOf pr 12 [.agg [L r, LLE t, LC b]] [] = some (.tuple [.agg [.nilS, .nilS, .nilS], B false], []) := by
  have h1 := call_vs r t b hr ht hx hb
  rw [← space_eq] at h1
  cases hs : specS r t b with
  | false =>
    rw [hs] at h1
    rw [if_neg (by simp)]
    rw [call_eq pr 12 _ _ Try.f12 fn_12 _ rfl _ ann_12 rfl]
    simp -implicitDefEqProofs only [h1, go_sem, Nat.reduceAdd, Nat.reduceSub, Nat.reduceMul, Nat.reduceMod, Nat.reduceLT, Nat.reduceLeDiff, Nat.reduceEqDiff, Nat.reduceBEq, Nat.reduceDiv, Int.reduceLT, Int.reduceLE, Int.reduceToNat, Int.reduceNeg, Int.reduceEq, ↓reduceIte, reduceCtorEq, ↓reduceDIte, Bool.false_eq_true, Bool.true_eq_false, ne_eq, not_true_eq_false, not_false_eq_true, Bool.true_or, Bool.false_or, Bool.or_true, Bool.or_false, Bool.true_and, Bool.false_and, Bool.and_true, Bool.and_false, Bool.not_true, Bool.not_false, Bool.not_eq_false', Bool.not_eq_true', and_true, true_and, and_false, false_and, or_true, true_or, or_false, false_or, and_self, or_self, decide_eq_true_eq, decide_true, decide_false, decide_eq_false_iff_not, ite_not, if_true, if_false, eq_self]
  | true =>
    rw [hs] at h1
    rw [if_pos rfl]
    have htb : tabB r t = true := by
      simp only [specS, Bool.and_eq_true] at hs
      exact hs.1.1.1
    obtain ⟨s1, s2, s3, s4⟩ := tabB_spec htb
    cases t with
    | nil =>
      left
      refine ⟨rfl, ?_⟩
      by_cases h0 : b.length = 0
      · have hb0 : b = [] := List.eq_nil_of_length_eq_zero h0
        subst hb0
        have h2 := call_cn0_nil r s1
        rw [call_eq pr 12 _ _ Try.f12 fn_12 _ rfl _ ann_12 rfl]
        simp -implicitDefEqProofs only [h1, h2, go_sem, Nat.reduceAdd, Nat.reduceSub, Nat.reduceMul, Nat.reduceMod, Nat.reduceLT, Nat.reduceLeDiff, Nat.reduceEqDiff, Nat.reduceBEq, Nat.reduceDiv, Int.reduceLT, Int.reduceLE, Int.reduceToNat, Int.reduceNeg, Int.reduceEq, ↓reduceIte, reduceCtorEq, ↓reduceDIte, Bool.false_eq_true, Bool.true_eq_false, ne_eq, not_true_eq_false, not_false_eq_true, Bool.true_or, Bool.false_or, Bool.or_true, Bool.or_false, Bool.true_and, Bool.false_and, Bool.and_true, Bool.and_false, Bool.not_true, Bool.not_false, Bool.not_eq_false', Bool.not_eq_true', and_true, true_and, and_false, false_and, or_true, true_or, or_false, false_or, and_self, or_self, decide_eq_true_eq, decide_true, decide_false, decide_eq_false_iff_not, ite_not, if_true, if_false, eq_self]
      · have h2 := call_cn1_nil r s1 b h0 hb
        rw [call_eq pr 12 _ _ Try.f12 fn_12 _ rfl _ ann_12 rfl]
        simp -implicitDefEqProofs only [h1, h2, go_sem, Nat.reduceAdd, Nat.reduceSub, Nat.reduceMul, Nat.reduceMod, Nat.reduceLT, Nat.reduceLeDiff, Nat.reduceEqDiff, Nat.reduceBEq, Nat.reduceDiv, Int.reduceLT, Int.reduceLE, Int.reduceToNat, Int.reduceNeg, Int.reduceEq, ↓reduceIte, reduceCtorEq, ↓reduceDIte, Bool.false_eq_true, Bool.true_eq_false, ne_eq, not_true_eq_false, not_false_eq_true, Bool.true_or, Bool.false_or, Bool.or_true, Bool.or_false, Bool.true_and, Bool.false_and, Bool.and_true, Bool.and_false, Bool.not_true, Bool.not_false, Bool.not_eq_false', Bool.not_eq_true', and_true, true_and, and_false, false_and, or_true, true_or, or_false, false_or, and_self, or_self, decide_eq_true_eq, decide_true, decide_false, decide_eq_false_iff_not, ite_not, if_true, if_false, eq_self]
    | cons x t =>
      right
      by_cases h0 : b.length = 0
      · have hb0 : b = [] := List.eq_nil_of_length_eq_zero h0
        subst hb0
        refine ⟨641, .inl rfl, ?_⟩
        have h2 := call_cn0_cons r s1 x t (by simp at s2; omega) s3
        rw [call_eq pr 12 _ _ Try.f12 fn_12 _ rfl _ ann_12 rfl]
        simp -implicitDefEqProofs only [h1, h2, go_sem, Nat.reduceAdd, Nat.reduceSub, Nat.reduceMul, Nat.reduceMod, Nat.reduceLT, Nat.reduceLeDiff, Nat.reduceEqDiff, Nat.reduceBEq, Nat.reduceDiv, Int.reduceLT, Int.reduceLE, Int.reduceToNat, Int.reduceNeg, Int.reduceEq, ↓reduceIte, reduceCtorEq, ↓reduceDIte, Bool.false_eq_true, Bool.true_eq_false, ne_eq, not_true_eq_false, not_false_eq_true, Bool.true_or, Bool.false_or, Bool.or_true, Bool.or_false, Bool.true_and, Bool.false_and, Bool.and_true, Bool.and_false, Bool.not_true, Bool.not_false, Bool.not_eq_false', Bool.not_eq_true', and_true, true_and, and_false, false_and, or_true, true_or, or_false, false_or, and_self, or_self, decide_eq_true_eq, decide_true, decide_false, decide_eq_false_iff_not, ite_not, if_true, if_false, eq_self]
      · refine ⟨642, .inr rfl, ?_⟩
        have h2 := call_cn1_cons r s1 b h0 hb x t (by simp at s2; omega) s3
        rw [call_eq pr 12 _ _ Try.f12 fn_12 _ rfl _ ann_12 rfl]
        simp -implicitDefEqProofs only [h1, h2, go_sem, Nat.reduceAdd, Nat.reduceSub, Nat.reduceMul, Nat.reduceMod, Nat.reduceLT, Nat.reduceLeDiff, Nat.reduceEqDiff, Nat.reduceBEq, Nat.reduceDiv, Int.reduceLT, Int.reduceLE, Int.reduceToNat, Int.reduceNeg, Int.reduceEq, ↓reduceIte, reduceCtorEq, ↓reduceDIte, Bool.false_eq_true, Bool.true_eq_false, ne_eq, not_true_eq_false, not_false_eq_true, Bool.true_or, Bool.false_or, Bool.or_true, Bool.or_false, Bool.true_and, Bool.false_and, Bool.and_true, Bool.and_false, Bool.not_true, Bool.not_false, Bool.not_eq_false', Bool.not_eq_true', and_true, true_and, and_false, false_and, or_true, true_or, or_false, false_or, and_self, or_self, decide_eq_true_eq, decide_true, decide_false, decide_eq_false_iff_not, ite_not, if_true, if_false, eq_self]
/-! what is compared and marked -/
abbrev tyT : Ty := .slice (.slice tyE)
theorem eq_f1 (r : List Int) (hr : Bd wide (.slice (.int .i64)) r) (t : List (List En)) (ht : Bd wide tyT t) : callOf pr 13 [.agg [L r, LLE t, .nilS], .agg [L r, LLE t, LC []]] [] = some (B true, []) := by
  have g1 : callOf pr 42 [.nilS, LC []] [] = some (B true, []) := eqe_CachedS
  have g2 : callOf pr 41 [.nilS, LLE []] [] = some (B true, []) := eqe_EntrySS
  rw [call_eq pr 13 _ _ Try.f13 fn_13 _ rfl _ ann_13 rfl]
  simp -implicitDefEqProofs only [BEq.rfl, beq_self_eq_true, decide_true, eq_Int64S r hr, eq_EntrySS t ht, g1, go_sem, Nat.reduceAdd, Nat.reduceSub, Nat.reduceMul, Nat.reduceMod, Nat.reduceLT, Nat.reduceLeDiff, Nat.reduceEqDiff, Nat.reduceBEq, Nat.reduceDiv, Int.reduceLT, Int.reduceLE, Int.reduceToNat, Int.reduceNeg, Int.reduceEq, ↓reduceIte, reduceCtorEq, ↓reduceDIte, Bool.false_eq_true, Bool.true_eq_false, ne_eq, not_true_eq_false, not_false_eq_true, Bool.true_or, Bool.false_or, Bool.or_true, Bool.or_false, Bool.true_and, Bool.false_and, Bool.and_true, Bool.and_false, Bool.not_true, Bool.not_false, Bool.not_eq_false', Bool.not_eq_true', and_true, true_and, and_false, false_and, or_true, true_or, or_false, false_or, and_self, or_self, decide_eq_true_eq, decide_true, decide_false, decide_eq_false_iff_not, ite_not, if_true, if_false, eq_self]
theorem eq_f0 (r : List Int) (hr : Bd wide (.slice (.int .i64)) r) : callOf pr 13 [.agg [L r, .nilS, .nilS], .agg [L r, LLE [], LC []]] [] = some (B true, []) := by
  have g1 : callOf pr 42 [.nilS, LC []] [] = some (B true, []) := eqe_CachedS
  have g2 : callOf pr 41 [.nilS, LLE []] [] = some (B true, []) := eqe_EntrySS
  rw [call_eq pr 13 _ _ Try.f13 fn_13 _ rfl _ ann_13 rfl]
  simp -implicitDefEqProofs only [BEq.rfl, beq_self_eq_true, decide_true, eq_Int64S r hr, g2, g1, go_sem, Nat.reduceAdd, Nat.reduceSub, Nat.reduceMul, Nat.reduceMod, Nat.reduceLT, Nat.reduceLeDiff, Nat.reduceEqDiff, Nat.reduceBEq, Nat.reduceDiv, Int.reduceLT, Int.reduceLE, Int.reduceToNat, Int.reduceNeg, Int.reduceEq, ↓reduceIte, reduceCtorEq, ↓reduceDIte, Bool.false_eq_true, Bool.true_eq_false, ne_eq, not_true_eq_false, not_false_eq_true, Bool.true_or, Bool.false_or, Bool.or_true, Bool.or_false, Bool.true_and, Bool.false_and, Bool.and_true, Bool.and_false, Bool.not_true, Bool.not_false, Bool.not_eq_false', Bool.not_eq_true', and_true, true_and, and_false, false_and, or_true, true_or, or_false, false_or, and_self, or_self, decide_eq_true_eq, decide_true, decide_false, decide_eq_false_iff_not, ite_not, if_true, if_false, eq_self]
theorem mark_f0 (y0 : List Int) (m : Int) (h0 : 0 ≤ m) (h1 : m + cnt (.slice (.int .i64)) y0 ≤ wide) (by0 : Bd wide (.slice (.int .i64)) y0) : callOf pr 14 [.agg [.os (.t 1000000), .nilS, .nilS], I m] [(1000000, .arr false false (.int .i64) y0)] = some (I (markD (.slice (.int .i64)) m y0).2, [(1000000, .arr false false (.int .i64) (markD (.slice (.int .i64)) m y0).1)]) := by
  have f0 := mark_Int64S y0 m h0 h1 by0.1
  rw [call_eq pr 14 _ _ Try.f14 fn_14 _ rfl _ ann_14 rfl]
  simp -implicitDefEqProofs only [f0, markn_EntrySS, markn_CachedS, go_sem, Nat.reduceAdd, Nat.reduceSub, Nat.reduceMul, Nat.reduceMod, Nat.reduceLT, Nat.reduceLeDiff, Nat.reduceEqDiff, Nat.reduceBEq, Nat.reduceDiv, Int.reduceLT, Int.reduceLE, Int.reduceToNat, Int.reduceNeg, Int.reduceEq, ↓reduceIte, reduceCtorEq, ↓reduceDIte, Bool.false_eq_true, Bool.true_eq_false, ne_eq, not_true_eq_false, not_false_eq_true, Bool.true_or, Bool.false_or, Bool.or_true, Bool.or_false, Bool.true_and, Bool.false_and, Bool.and_true, Bool.and_false, Bool.not_true, Bool.not_false, Bool.not_eq_false', Bool.not_eq_true', and_true, true_and, and_false, false_and, or_true, true_or, or_false, false_or, and_self, or_self, decide_eq_true_eq, decide_true, decide_false, decide_eq_false_iff_not, ite_not, if_true, if_false, eq_self]
theorem mark_f1 (y0 : List Int) (y1 : List (List En)) (m : Int) (h0 : 0 ≤ m) (h1 : m + ((cnt (.slice (.int .i64)) y0 + cnt (.slice (.slice tyE)) y1 : Nat) : Int) ≤ wide) (by0 : Bd wide (.slice (.int .i64)) y0) (by1 : Bd wide (.slice (.slice tyE)) y1) : callOf pr 14 [.agg [.os (.t 1000000), .os (.t 1000001), .nilS], I m] [(1000000, .arr false false (.int .i64) y0), (1000001, .arr false true (.slice tyE) y1)] = some (I (markD (.slice (.slice tyE)) (markD (.slice (.int .i64)) m y0).2 y1).2, [(1000000, .arr false false (.int .i64) (markD (.slice (.int .i64)) m y0).1), (1000001, .arr false true (.slice tyE) (markD (.slice (.slice tyE)) (markD (.slice (.int .i64)) m y0).2 y1).1)]) := by
  simp only [wide] at h1
  have q0 := markD_end (.slice (.int .i64)) m y0
  have f0 := mark_Int64S y0 m (by omega) (by simp only [wide]; omega) by0.1
  have hc : (markD (.slice (.int .i64)) m y0).2 + cnt (.slice (.slice tyE)) y1 ≤ 900000000000000000 := by omega
  have f1 := mark_EntrySS y1 (markD (.slice (.int .i64)) m y0).2 (by omega) hc by1.1 by1.2
  rw [call_eq pr 14 _ _ Try.f14 fn_14 _ rfl _ ann_14 rfl]
  simp -implicitDefEqProofs only [f0, f1, markn_CachedS, go_sem, Nat.reduceAdd, Nat.reduceSub, Nat.reduceMul, Nat.reduceMod, Nat.reduceLT, Nat.reduceLeDiff, Nat.reduceEqDiff, Nat.reduceBEq, Nat.reduceDiv, Int.reduceLT, Int.reduceLE, Int.reduceToNat, Int.reduceNeg, Int.reduceEq, ↓reduceIte, reduceCtorEq, ↓reduceDIte, Bool.false_eq_true, Bool.true_eq_false, ne_eq, not_true_eq_false, not_false_eq_true, Bool.true_or, Bool.false_or, Bool.or_true, Bool.or_false, Bool.true_and, Bool.false_and, Bool.and_true, Bool.and_false, Bool.not_true, Bool.not_false, Bool.not_eq_false', Bool.not_eq_true', and_true, true_and, and_false, false_and, or_true, true_or, or_false, false_or, and_self, or_self, decide_eq_true_eq, decide_true, decide_false, decide_eq_false_iff_not, ite_not, if_true, if_false, eq_self]
theorem held_f0 (y0 : List Int) (m : Int) (h0 : 0 ≤ m) (h1 : m + cnt (.slice (.int .i64)) y0 ≤ wide) (by0 : Bd wide (.slice (.int .i64)) y0) : callOf pr 15 [.agg [L (markD (.slice (.int .i64)) m y0).1, .nilS, .nilS], I m] [] = some (I (markD (.slice (.int .i64)) m y0).2, []) := by
  have q0 := markD_end (.slice (.int .i64)) m y0
  have f0 := held_Int64S y0 m h0 h1 by0.1
  have n0 : ¬ (markD (.slice (.int .i64)) m y0).2 < 0 := by omega
  rw [call_eq pr 15 _ _ Try.f15 fn_15 _ rfl _ ann_15 rfl]
  simp -implicitDefEqProofs only [f0, fa n0, heldn_EntrySS, heldn_CachedS, go_sem, Nat.reduceAdd, Nat.reduceSub, Nat.reduceMul, Nat.reduceMod, Nat.reduceLT, Nat.reduceLeDiff, Nat.reduceEqDiff, Nat.reduceBEq, Nat.reduceDiv, Int.reduceLT, Int.reduceLE, Int.reduceToNat, Int.reduceNeg, Int.reduceEq, ↓reduceIte, reduceCtorEq, ↓reduceDIte, Bool.false_eq_true, Bool.true_eq_false, ne_eq, not_true_eq_false, not_false_eq_true, Bool.true_or, Bool.false_or, Bool.or_true, Bool.or_false, Bool.true_and, Bool.false_and, Bool.and_true, Bool.and_false, Bool.not_true, Bool.not_false, Bool.not_eq_false', Bool.not_eq_true', and_true, true_and, and_false, false_and, or_true, true_or, or_false, false_or, and_self, or_self, decide_eq_true_eq, decide_true, decide_false, decide_eq_false_iff_not, ite_not, if_true, if_false, eq_self]
theorem held_f1 (y0 : List Int) (y1 : List (List En)) (m : Int) (h0 : 0 ≤ m) (h1 : m + ((cnt (.slice (.int .i64)) y0 + cnt (.slice (.slice tyE)) y1 : Nat) : Int) ≤ wide) (by0 : Bd wide (.slice (.int .i64)) y0) (by1 : Bd wide (.slice (.slice tyE)) y1) : callOf pr 15 [.agg [L (markD (.slice (.int .i64)) m y0).1, LLE (markD (.slice (.slice tyE)) (markD (.slice (.int .i64)) m y0).2 y1).1, .nilS], I m] [] = some (I (markD (.slice (.slice tyE)) (markD (.slice (.int .i64)) m y0).2 y1).2, []) := by
  simp only [wide] at h1
  have q0 := markD_end (.slice (.int .i64)) m y0
  have q1 := markD_end (.slice (.slice tyE)) (markD (.slice (.int .i64)) m y0).2 y1
  have f0 := held_Int64S y0 m (by omega) (by simp only [wide]; omega) by0.1
  have n0 : ¬ (markD (.slice (.int .i64)) m y0).2 < 0 := by omega
  have hc : (markD (.slice (.int .i64)) m y0).2 + cnt (.slice (.slice tyE)) y1 ≤ 900000000000000000 := by omega
  have f1 := held_EntrySS y1 (markD (.slice (.int .i64)) m y0).2 (by omega) hc by1.1 by1.2
  have n1 : ¬ (markD (.slice (.slice tyE)) (markD (.slice (.int .i64)) m y0).2 y1).2 < 0 := by omega
  rw [call_eq pr 15 _ _ Try.f15 fn_15 _ rfl _ ann_15 rfl]
  simp -implicitDefEqProofs only [f0, fa n0, f1, fa n1, heldn_CachedS, go_sem, Nat.reduceAdd, Nat.reduceSub, Nat.reduceMul, Nat.reduceMod, Nat.reduceLT, Nat.reduceLeDiff, Nat.reduceEqDiff, Nat.reduceBEq, Nat.reduceDiv, Int.reduceLT, Int.reduceLE, Int.reduceToNat, Int.reduceNeg, Int.reduceEq, ↓reduceIte, reduceCtorEq, ↓reduceDIte, Bool.false_eq_true, Bool.true_eq_false, ne_eq, not_true_eq_false, not_false_eq_true, Bool.true_or, Bool.false_or, Bool.or_true, Bool.or_false, Bool.true_and, Bool.false_and, Bool.and_true, Bool.and_false, Bool.not_true, Bool.not_false, Bool.not_eq_false', Bool.not_eq_true', and_true, true_and, and_false, false_and, or_true, true_or, or_false, false_or, and_self, or_self, decide_eq_true_eq, decide_true, decide_false, decide_eq_false_iff_not, ite_not, if_true, if_false, eq_self]
theorem cnt_int (xs : List Int) : cnt (.slice (.int .i64)) xs = xs.length := by
  induction xs with
  | nil => rfl
  | cons x xs ih => simp only [cnt_slice, List.map_cons, List.sum_cons, List.length_cons] at ih ⊢; rw [ih]; simp [cnt]; omega
theorem law_flushall (r : List Int) (t : List (List En)) (b : List Ca) (hx : Bd wide (.agg (.cons (.slice (.int .i64)) (.cons (.slice (.slice tyE)) (.cons (.slice tyC) .nil)))) (r, t, b, ())) : callOf pr 3 [.agg [L r, LLE t, LC b]] [] = some (B true, []) := by
  obtain ⟨r0, a0, b0, c0⟩ := sz_Space (r, t, b, ()) hx 1048576 (by omega) (by omega)
  have a0 : callOf pr 9 [.agg [L r, LLE t, LC b], I 1048576] [] = some (I r0, []) := a0
  rw [call_eq pr 3 _ _ Try.f3 fn_3 _ rfl _ ann_3 rfl]
  by_cases g0 : r0 < 0
  · simp -implicitDefEqProofs only [a0, tr g0, go_sem, Nat.reduceAdd, Nat.reduceSub, Nat.reduceMul, Nat.reduceMod, Nat.reduceLT, Nat.reduceLeDiff, Nat.reduceEqDiff, Nat.reduceBEq, Nat.reduceDiv, Int.reduceLT, Int.reduceLE, Int.reduceToNat, Int.reduceNeg, Int.reduceEq, ↓reduceIte, reduceCtorEq, ↓reduceDIte, Bool.false_eq_true, Bool.true_eq_false, ne_eq, not_true_eq_false, not_false_eq_true, Bool.true_or, Bool.false_or, Bool.or_true, Bool.or_false, Bool.true_and, Bool.false_and, Bool.and_true, Bool.and_false, Bool.not_true, Bool.not_false, Bool.not_eq_false', Bool.not_eq_true', and_true, true_and, and_false, false_and, or_true, true_or, or_false, false_or, and_self, or_self, decide_eq_true_eq, decide_true, decide_false, decide_eq_false_iff_not, ite_not, if_true, if_false, eq_self]
  have hs : Bd small (.agg (.cons (.slice (.int .i64)) (.cons (.slice (.slice tyE)) (.cons (.slice tyC) .nil)))) (r, t, b, ()) := c0 (by omega)
  have hl1 : r.length ≤ 1048576 := hs.1.1
  have hl2 : t.length ≤ 1048576 := hs.2.1.1
  have hl3 : b.length ≤ 1048576 := hs.2.2.1.1
  have hcl : ∀ x ∈ t, x.length < 2000000 := fun x hx' => by have : x.length ≤ 1048576 := (hs.2.1.2 x hx').1; omega
  have t1 : callOf pr 11 [.agg [L r, LLE t, LC b]] [] = some (.agg [.os (.t 384), .os (.t 640), .os (.t 896)], [(384, .arr true false (.int .i64) r), (640, .arr true true (.slice tyE) t), (896, .arr true false tyC b)]) := to_Space (r, t, b, ()) hs
  have h1 := call_sf r t b (by omega)
  have h2 := call_ifl r t b (by omega) (by omega) hcl (by omega)
  have e1 : callOf pr 13 [.agg [L r, LLE t, LC b], .agg [L r, LLE t, LC b]] [] = some (B true, []) := eq_Space (r, t, b, ()) hx
  have hg : cnt (.slice (.slice tyE)) t ≤ 4398046511104 := by
    have := cnt_le (n := small) (.slice (.slice tyE)) t hs.2.1
    simp only [top, small] at this
    omega
  have hv : cnt (.slice tyC) b ≤ 1099511627776 := by
    have := cnt_le (n := small) (.slice tyC) b hs.2.2.1
    simp only [top, small] at this
    omega
  have hc := cnt_int r
  have k0 : (1 : Int) + ((cnt (.slice (.int .i64)) r + cnt (.slice (.slice tyE)) t + cnt (.slice tyC) b : Nat) : Int) ≤ 900000000000000000 := by omega
  have k1 := mark_Space r t b 1 (by omega) k0 hx.1 hx.2.1 hx.2.2.1
  have n1 := markD_end (.slice (.int .i64)) 1 r
  have n2 := markD_end (.slice (.slice tyE)) (markD (.slice (.int .i64)) 1 r).2 t
  have n3 := markD_end (.slice tyC) (markD (.slice (.slice tyE)) (markD (.slice (.int .i64)) 1 r).2 t).2 b
  have k3 : ¬ (markD (.slice tyC) (markD (.slice (.slice tyE)) (markD (.slice (.int .i64)) 1 r).2 t).2 b).2 < 0 := by omega
  cases hsp : specS r t b with
  | false =>
    rw [hsp, if_neg (by simp)] at h1 h2
    have m0 := markn_Space 1 (by omega)
    have q0 := heldn_Space 1 (by omega)
    simp -implicitDefEqProofs only [a0, fa g0, t1, h1, e1, BEq.rfl, beq_self_eq_true, k1, fa k3, eq_self_iff_true, h2, eqn_Space, m0, q0, go_sem, Nat.reduceAdd, Nat.reduceSub, Nat.reduceMul, Nat.reduceMod, Nat.reduceLT, Nat.reduceLeDiff, Nat.reduceEqDiff, Nat.reduceBEq, Nat.reduceDiv, Int.reduceLT, Int.reduceLE, Int.reduceToNat, Int.reduceNeg, Int.reduceEq, ↓reduceIte, reduceCtorEq, ↓reduceDIte, Bool.false_eq_true, Bool.true_eq_false, ne_eq, not_true_eq_false, not_false_eq_true, Bool.true_or, Bool.false_or, Bool.or_true, Bool.or_false, Bool.true_and, Bool.false_and, Bool.and_true, Bool.and_false, Bool.not_true, Bool.not_false, Bool.not_eq_false', Bool.not_eq_true', and_true, true_and, and_false, false_and, or_true, true_or, or_false, false_or, and_self, or_self, decide_eq_true_eq, decide_true, decide_false, decide_eq_false_iff_not, ite_not, if_true, if_false, eq_self]
  | true =>
    rw [hsp, if_pos rfl] at h1 h2
    rcases h2 with ⟨ht0, h2⟩ | ⟨k, hk, h2⟩
    · subst ht0
      have c0 : (1 : Int) + cnt (.slice (.int .i64)) r ≤ wide := by simp only [wide]; omega
      have m0 := mark_f0 r 1 (by omega) c0 hx.1
      have q0 := held_f0 r 1 (by omega) c0 hx.1
      have v0 := eq_f0 r hx.1
      have z0 : ¬ (markD (.slice (.int .i64)) 1 r).2 < 0 := by omega
      simp -implicitDefEqProofs only [a0, fa g0, t1, h1, e1, BEq.rfl, beq_self_eq_true, k1, fa k3, eq_self_iff_true, h2, v0, m0, q0, fa z0, go_sem, Nat.reduceAdd, Nat.reduceSub, Nat.reduceMul, Nat.reduceMod, Nat.reduceLT, Nat.reduceLeDiff, Nat.reduceEqDiff, Nat.reduceBEq, Nat.reduceDiv, Int.reduceLT, Int.reduceLE, Int.reduceToNat, Int.reduceNeg, Int.reduceEq, ↓reduceIte, reduceCtorEq, ↓reduceDIte, Bool.false_eq_true, Bool.true_eq_false, ne_eq, not_true_eq_false, not_false_eq_true, Bool.true_or, Bool.false_or, Bool.or_true, Bool.or_false, Bool.true_and, Bool.false_and, Bool.and_true, Bool.and_false, Bool.not_true, Bool.not_false, Bool.not_eq_false', Bool.not_eq_true', and_true, true_and, and_false, false_and, or_true, true_or, or_false, false_or, and_self, or_self, decide_eq_true_eq, decide_true, decide_false, decide_eq_false_iff_not, ite_not, if_true, if_false, eq_self]
    · have c0 : (1 : Int) + ((cnt (.slice (.int .i64)) r + cnt (.slice (.slice tyE)) t : Nat) : Int) ≤ wide := by simp only [wide]; omega
      have m0 := mark_f1 r t 1 (by omega) c0 hx.1 hx.2.1
      have q0 := held_f1 r t 1 (by omega) c0 hx.1 hx.2.1
      have v0 := eq_f1 r hx.1 t hx.2.1
      have z0 : ¬ (markD (.slice (.slice tyE)) (markD (.slice (.int .i64)) 1 r).2 t).2 < 0 := by omega
      rcases hk with rfl | rfl
      · simp -implicitDefEqProofs only [a0, fa g0, t1, h1, e1, BEq.rfl, beq_self_eq_true, k1, fa k3, eq_self_iff_true, h2, v0, m0, q0, fa z0, go_sem, Nat.reduceAdd, Nat.reduceSub, Nat.reduceMul, Nat.reduceMod, Nat.reduceLT, Nat.reduceLeDiff, Nat.reduceEqDiff, Nat.reduceBEq, Nat.reduceDiv, Int.reduceLT, Int.reduceLE, Int.reduceToNat, Int.reduceNeg, Int.reduceEq, ↓reduceIte, reduceCtorEq, ↓reduceDIte, Bool.false_eq_true, Bool.true_eq_false, ne_eq, not_true_eq_false, not_false_eq_true, Bool.true_or, Bool.false_or, Bool.or_true, Bool.or_false, Bool.true_and, Bool.false_and, Bool.and_true, Bool.and_false, Bool.not_true, Bool.not_false, Bool.not_eq_false', Bool.not_eq_true', and_true, true_and, and_false, false_and, or_true, true_or, or_false, false_or, and_self, or_self, decide_eq_true_eq, decide_true, decide_false, decide_eq_false_iff_not, ite_not, if_true, if_false, eq_self]
      · simp -implicitDefEqProofs only [a0, fa g0, t1, h1, e1, BEq.rfl, beq_self_eq_true, k1, fa k3, eq_self_iff_true, h2, v0, m0, q0, fa z0, go_sem, Nat.reduceAdd, Nat.reduceSub, Nat.reduceMul, Nat.reduceMod, Nat.reduceLT, Nat.reduceLeDiff, Nat.reduceEqDiff, Nat.reduceBEq, Nat.reduceDiv, Int.reduceLT, Int.reduceLE, Int.reduceToNat, Int.reduceNeg, Int.reduceEq, ↓reduceIte, reduceCtorEq, ↓reduceDIte, Bool.false_eq_true, Bool.true_eq_false, ne_eq, not_true_eq_false, not_false_eq_true, Bool.true_or, Bool.false_or, Bool.or_true, Bool.or_false, Bool.true_and, Bool.false_and, Bool.and_true, Bool.and_false, Bool.not_true, Bool.not_false, Bool.not_eq_false', Bool.not_eq_true', and_true, true_and, and_false, false_and, or_true, true_or, or_false, false_or, and_self, or_self, decide_eq_true_eq, decide_true, decide_false, decide_eq_false_iff_not, ite_not, if_true, if_false, eq_self]
end Go.Proofs.Yticpldfkjldepaa.PI
