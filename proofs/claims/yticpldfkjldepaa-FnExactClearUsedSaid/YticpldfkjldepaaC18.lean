/- Copies of spaces. -/
import Derived.Test.YticpldfkjldepaaC11
namespace Go.Proofs.Yticpldfkjldepaa.PI
open Go Go.Q
set_option maxRecDepth 100000
set_option maxHeartbeats 4000000
set_option linter.unusedSimpArgs false
set_option linter.unusedVariables false
theorem call_own (xs : List Int) (hl : xs.length < 2000000) : callOf pr 88 [L xs] [] = some (.os (.t 192), [(192, .arr true false (.int .i64) xs)]) := by
  have hroom : ((0 + xs.length) * 8 ≤ 140737488355328 ∧ 0 + xs.length ≤ 9223372036854775807) = True := tr (by omega)
  rw [call_eq pr 88 _ _ Try.f88 fn_88 _ rfl _ ann_88 rfl]
  simp -implicitDefEqProofs only [hroom, go_sem, Nat.reduceAdd, Nat.reduceSub, Nat.reduceMul, Nat.reduceMod, Nat.reduceLT, Nat.reduceLeDiff, Nat.reduceEqDiff, Nat.reduceBEq, Nat.reduceDiv, Int.reduceLT, Int.reduceLE, Int.reduceToNat, Int.reduceNeg, Int.reduceEq, ↓reduceIte, reduceCtorEq, ↓reduceDIte]
theorem loop_so (r : List Int) (b : List Ca) : ∀ (suf pre : List (List En)), pre.length + suf.length < 1000 → (∀ x ∈ suf, x.length < 2000000) →
    loopOf pr 35 0 ⟨[(0, .rp [L r, LLE (pre ++ suf), LC b]), (2, .op 128 0), (3, .op 192 0), (4, I pre.length)], [(128, .box [.nilS, .nilS, .nilS]), (576, .arr true false (.int .i64) r), (704, .arr true false tyC b), (640, .arr true true (.slice tyE) pre), (192, .box [.os (.t 576), .os (.t 640), .os (.t 704)])]⟩ = some (.exit 0, ⟨[(0, .rp [L r, LLE (pre ++ suf), LC b]), (2, .op 128 0), (3, .op 192 0), (4, I ((pre.length + suf.length : Nat) : Int))], [(128, .box [.nilS, .nilS, .nilS]), (576, .arr true false (.int .i64) r), (704, .arr true false tyC b), (640, .arr true true (.slice tyE) (pre ++ suf)), (192, .box [.os (.t 576), .os (.t 640), .os (.t 704)])]⟩)
  | [], pre, hb, hx => by
    rw [loop_eq pr 35 0 _ Try.f35 fn_35 _ rfl _ ann_35 _ rfl]
    simp -implicitDefEqProofs only [Int.lt_irrefl, List.append_nil, Nat.add_zero, go_sem, Nat.reduceAdd, Nat.reduceSub, Nat.reduceMul, Nat.reduceMod, Nat.reduceLT, Nat.reduceLeDiff, Nat.reduceEqDiff, Nat.reduceBEq, Nat.reduceDiv, Int.reduceLT, Int.reduceLE, Int.reduceToNat, Int.reduceNeg, Int.reduceEq, ↓reduceIte, reduceCtorEq, ↓reduceDIte]
  | x :: suf, pre, hb, hx => by
    simp only [List.length_cons] at hb
    have hx0 := hx x (by simp)
    have hw : IntKind.i64.wrap ((pre.length : Int) + 1) = ((pre.length + 1 : Nat) : Int) := by rw [wrap_i] <;> omega
    have hr1 : ((0 + x.length) * 16 ≤ 140737488355328 ∧ 0 + x.length ≤ 9223372036854775807) = True := tr (by omega)
    have hr2 : ((pre.length + 1) * 24 ≤ 140737488355328 ∧ pre.length ≤ 9223372036854775806) = True := tr (by omega)
    have ih := loop_so r b suf (pre ++ [x]) (by simp; omega) (fun y hy => hx y (by simp [hy]))
    have e1 : (pre ++ [x]).length = pre.length + 1 := by simp
    have e2 : pre.length + 1 + suf.length = pre.length + (x :: suf).length := by simp; omega
    rw [app_one, e1, e2] at ih
    rw [loop_eq pr 35 0 _ Try.f35 fn_35 _ rfl _ ann_35 _ rfl]
    simp -implicitDefEqProofs only [getD_app, lt_app, ltn_app, zero_le_cast, Int.toNat_natCast, hw, hr1, hr2, go_sem, Nat.reduceAdd, Nat.reduceSub, Nat.reduceMul, Nat.reduceMod, Nat.reduceLT, Nat.reduceLeDiff, Nat.reduceEqDiff, Nat.reduceBEq, Nat.reduceDiv, Int.reduceLT, Int.reduceLE, Int.reduceToNat, Int.reduceNeg, Int.reduceEq, ↓reduceIte, reduceCtorEq, ↓reduceDIte]
    exact ih
theorem call_so (r : List Int) (t : List (List En)) (b : List Ca) (hr : r.length < 2000000) (ht : t.length < 1000) (hx : ∀ x ∈ t, x.length < 2000000) (hb : b.length < 2000000) : callOf pr 35 [.rp [L r, LLE t, LC b]] [] = some (.agg [.os (.t 576), .os (.t 640), .os (.t 704)], [(576, .arr true false (.int .i64) r), (704, .arr true false tyC b), (640, .arr true true (.slice tyE) t)]) := by
  have h := call_own r hr
  have hroom : ((0 + b.length) * 24 ≤ 140737488355328 ∧ 0 + b.length ≤ 9223372036854775807) = True := tr (by omega)
  have h2 := loop_so r b t [] (by simp; omega) hx
  simp only [List.nil_append, List.length_nil] at h2
  have h2 : loopOf pr 35 0 ⟨[(0, .rp [L r, LLE t, LC b]), (2, .op 128 0), (3, .op 192 0), (4, I 0)], [(128, .box [.nilS, .nilS, .nilS]), (576, .arr true false (.int .i64) r), (704, .arr true false tyC b), (640, .arr true true (.slice tyE) []), (192, .box [.os (.t 576), .os (.t 640), .os (.t 704)])]⟩ = _ := h2
  rw [call_eq pr 35 _ _ Try.f35 fn_35 _ rfl _ ann_35 rfl]
  simp -implicitDefEqProofs only [h, hroom, h2, go_sem, Nat.reduceAdd, Nat.reduceSub, Nat.reduceMul, Nat.reduceMod, Nat.reduceLT, Nat.reduceLeDiff, Nat.reduceEqDiff, Nat.reduceBEq, Nat.reduceDiv, Int.reduceLT, Int.reduceLE, Int.reduceToNat, Int.reduceNeg, Int.reduceEq, ↓reduceIte, reduceCtorEq, ↓reduceDIte]
theorem clone_tab (x : List En) (h8 : x.length = 8) : callOf pr 92 [LE x] [] = some (.os (.t 64), [(64, .arr true false tyE x)]) := by
  rw [call_cle x (by omega)]
  simp only [cloneV, if_neg (show ¬ x.length = 0 by omega)]
theorem loop_cn02 (r : List Int) : ∀ (suf pre : List (List En)), pre.length + suf.length < 1000 → (∀ x ∈ suf, x.length = 8) →
    loopOf pr 39 0 ⟨[(2, .op 128 0), (3, .op 192 0), (14, LLE (pre ++ suf)), (15, I ((pre.length + suf.length : Nat) : Int)), (16, I pre.length)], [(128, .box [.nilS, .nilS, .nilS]), (512, .arr true false (.int .i64) r), (192, .box [.os (.t 512), .os (.t 1600), .empS]), (1600, .arr true true (.slice tyE) pre)]⟩ = some (.exit 0, ⟨[(2, .op 128 0), (3, .op 192 0), (14, LLE (pre ++ suf)), (15, I ((pre.length + suf.length : Nat) : Int)), (16, I ((pre.length + suf.length : Nat) : Int))], [(128, .box [.nilS, .nilS, .nilS]), (512, .arr true false (.int .i64) r), (192, .box [.os (.t 512), .os (.t 1600), .empS]), (1600, .arr true true (.slice tyE) (pre ++ suf))]⟩)
  | [], pre, hb, hx => by
    rw [loop_eq pr 39 0 _ Try.f39 fn_39 _ rfl _ ann_39 _ rfl]
    simp -implicitDefEqProofs only [Int.lt_irrefl, List.append_nil, Nat.add_zero, List.length_nil, go_sem, Nat.reduceAdd, Nat.reduceSub, Nat.reduceMul, Nat.reduceMod, Nat.reduceLT, Nat.reduceLeDiff, Nat.reduceEqDiff, Nat.reduceBEq, Nat.reduceDiv, Int.reduceLT, Int.reduceLE, Int.reduceToNat, Int.reduceNeg, Int.reduceEq, ↓reduceIte, reduceCtorEq, ↓reduceDIte]
  | x :: suf, pre, hb, hx => by
    simp only [List.length_cons] at hb ⊢
    have hw : IntKind.i64.wrap ((pre.length : Int) + 1) = ((pre.length + 1 : Nat) : Int) := by rw [wrap_i] <;> omega
    have hlt : ((pre.length : Int) < ((pre.length + (suf.length + 1) : Nat) : Int)) = True := tr (by omega)
    have hr2 : ((pre.length + 1) * 24 ≤ 140737488355328 ∧ pre.length ≤ 9223372036854775806) = True := tr (by omega)
    have h := clone_tab x (hx x (by simp))
    have ih := loop_cn02 r suf (pre ++ [x]) (by simp; omega) (fun y hy => hx y (by simp [hy]))
    have e1 : (pre ++ [x]).length = pre.length + 1 := by simp
    have e2 : pre.length + 1 + suf.length = pre.length + (suf.length + 1) := by omega
    rw [app_one, e1, e2] at ih
    rw [loop_eq pr 39 0 _ Try.f39 fn_39 _ rfl _ ann_39 _ rfl]
    simp -implicitDefEqProofs only [getD_app, lt_app, ltn_app, zero_le_cast, Int.toNat_natCast, hw, hlt, hr2, h, go_sem, Nat.reduceAdd, Nat.reduceSub, Nat.reduceMul, Nat.reduceMod, Nat.reduceLT, Nat.reduceLeDiff, Nat.reduceEqDiff, Nat.reduceBEq, Nat.reduceDiv, Int.reduceLT, Int.reduceLE, Int.reduceToNat, Int.reduceNeg, Int.reduceEq, ↓reduceIte, reduceCtorEq, ↓reduceDIte]
    exact ih
theorem loop_cn12 (r : List Int) (b : List Ca) : ∀ (suf pre : List (List En)), pre.length + suf.length < 1000 → (∀ x ∈ suf, x.length = 8) →
    loopOf pr 39 0 ⟨[(2, .op 128 0), (3, .op 192 0), (14, LLE (pre ++ suf)), (15, I ((pre.length + suf.length : Nat) : Int)), (16, I pre.length)], [(128, .box [.nilS, .nilS, .nilS]), (512, .arr true false (.int .i64) r), (704, .arr true false tyC b), (192, .box [.os (.t 512), .os (.t 1600), .os (.t 704)]), (1600, .arr true true (.slice tyE) pre)]⟩ = some (.exit 0, ⟨[(2, .op 128 0), (3, .op 192 0), (14, LLE (pre ++ suf)), (15, I ((pre.length + suf.length : Nat) : Int)), (16, I ((pre.length + suf.length : Nat) : Int))], [(128, .box [.nilS, .nilS, .nilS]), (512, .arr true false (.int .i64) r), (704, .arr true false tyC b), (192, .box [.os (.t 512), .os (.t 1600), .os (.t 704)]), (1600, .arr true true (.slice tyE) (pre ++ suf))]⟩)
  | [], pre, hb, hx => by
    rw [loop_eq pr 39 0 _ Try.f39 fn_39 _ rfl _ ann_39 _ rfl]
    simp -implicitDefEqProofs only [Int.lt_irrefl, List.append_nil, Nat.add_zero, List.length_nil, go_sem, Nat.reduceAdd, Nat.reduceSub, Nat.reduceMul, Nat.reduceMod, Nat.reduceLT, Nat.reduceLeDiff, Nat.reduceEqDiff, Nat.reduceBEq, Nat.reduceDiv, Int.reduceLT, Int.reduceLE, Int.reduceToNat, Int.reduceNeg, Int.reduceEq, ↓reduceIte, reduceCtorEq, ↓reduceDIte]
  | x :: suf, pre, hb, hx => by
    simp only [List.length_cons] at hb ⊢
    have hw : IntKind.i64.wrap ((pre.length : Int) + 1) = ((pre.length + 1 : Nat) : Int) := by rw [wrap_i] <;> omega
    have hlt : ((pre.length : Int) < ((pre.length + (suf.length + 1) : Nat) : Int)) = True := tr (by omega)
    have hr2 : ((pre.length + 1) * 24 ≤ 140737488355328 ∧ pre.length ≤ 9223372036854775806) = True := tr (by omega)
    have h := clone_tab x (hx x (by simp))
    have ih := loop_cn12 r b suf (pre ++ [x]) (by simp; omega) (fun y hy => hx y (by simp [hy]))
    have e1 : (pre ++ [x]).length = pre.length + 1 := by simp
    have e2 : pre.length + 1 + suf.length = pre.length + (suf.length + 1) := by omega
    rw [app_one, e1, e2] at ih
    rw [loop_eq pr 39 0 _ Try.f39 fn_39 _ rfl _ ann_39 _ rfl]
    simp -implicitDefEqProofs only [getD_app, lt_app, ltn_app, zero_le_cast, Int.toNat_natCast, hw, hlt, hr2, h, go_sem, Nat.reduceAdd, Nat.reduceSub, Nat.reduceMul, Nat.reduceMod, Nat.reduceLT, Nat.reduceLeDiff, Nat.reduceEqDiff, Nat.reduceBEq, Nat.reduceDiv, Int.reduceLT, Int.reduceLE, Int.reduceToNat, Int.reduceNeg, Int.reduceEq, ↓reduceIte, reduceCtorEq, ↓reduceDIte]
    exact ih
theorem clone_root (r : List Int) (h8 : r.length = 8) : callOf pr 72 [L r] [] = some (.os (.t 64), [(64, .arr true false (.int .i64) r)]) := by
  rw [call_cli r (by omega)]
  simp only [cloneV, if_neg (show ¬ r.length = 0 by omega)]
theorem clone_buf (b : List Ca) (h0 : ¬ b.length = 0) (h : b.length < 2000000) : callOf pr 91 [LC b] [] = some (.os (.t 64), [(64, .arr true false tyC b)]) := by
  rw [call_clc b (by omega)]
  simp only [cloneV, if_neg h0]
theorem clone_buf0 : callOf pr 91 [LC []] [] = some (.empS, []) := by
  rw [call_clc [] (by simp)]
  rfl
theorem call_cn0_nil (r : List Int) (h8 : r.length = 8) : callOf pr 39 [.agg [L r, LLE [], LC []]] [] = some (.agg [.os (.t 512), .nilS, .empS], [(512, .arr true false (.int .i64) r)]) := by
  have h1 := clone_root r h8
  have h2 := clone_buf0
  have h : loopOf pr 39 0 ⟨[(2, .op 128 0), (3, .op 192 0), (14, LLE []), (15, I 0), (16, I 0)], [(128, .box [.nilS, .nilS, .nilS]), (512, .arr true false (.int .i64) r), (192, .box [.os (.t 512), .nilS, .empS])]⟩ = some (.exit 0, ⟨[(2, .op 128 0), (3, .op 192 0), (14, LLE []), (15, I 0), (16, I 0)], [(128, .box [.nilS, .nilS, .nilS]), (512, .arr true false (.int .i64) r), (192, .box [.os (.t 512), .nilS, .empS])]⟩) := by
    rw [loop_eq pr 39 0 _ Try.f39 fn_39 _ rfl _ ann_39 _ rfl]
    simp -implicitDefEqProofs only [Int.lt_irrefl, go_sem, Nat.reduceAdd, Nat.reduceSub, Nat.reduceMul, Nat.reduceMod, Nat.reduceLT, Nat.reduceLeDiff, Nat.reduceEqDiff, Nat.reduceBEq, Nat.reduceDiv, Int.reduceLT, Int.reduceLE, Int.reduceToNat, Int.reduceNeg, Int.reduceEq, ↓reduceIte, reduceCtorEq, ↓reduceDIte]
  rw [call_eq pr 39 _ _ Try.f39 fn_39 _ rfl _ ann_39 rfl]
  simp -implicitDefEqProofs only [h1, h2, Int.natCast_zero, h, go_sem, Nat.reduceAdd, Nat.reduceSub, Nat.reduceMul, Nat.reduceMod, Nat.reduceLT, Nat.reduceLeDiff, Nat.reduceEqDiff, Nat.reduceBEq, Nat.reduceDiv, Int.reduceLT, Int.reduceLE, Int.reduceToNat, Int.reduceNeg, Int.reduceEq, ↓reduceIte, reduceCtorEq, ↓reduceDIte]
theorem call_cn0_cons (r : List Int) (h8 : r.length = 8) (x : List En) (t : List (List En)) (ht : t.length < 900) (hx : ∀ y ∈ x :: t, y.length = 8) : callOf pr 39 [.agg [L r, LLE (x :: t), LC []]] [] = some (.agg [.os (.t 512), .os (.t 1600), .empS], [(512, .arr true false (.int .i64) r), (1600, .arr true true (.slice tyE) (x :: t))]) := by
  have h1 := clone_root r h8
  have h2 := clone_buf0
  have h3 := clone_tab x (hx x (by simp))
  have ih := loop_cn02 r t [x] (by simp; omega) (fun y hy => hx y (by simp [hy]))
  simp only [List.cons_append, List.nil_append, List.length_cons, List.length_nil, Nat.zero_add] at ih
  have hc : (1 : Nat) + t.length = t.length + 1 := by omega
  rw [hc] at ih
  have hlt : ((0 : Int) < ((t.length + 1 : Nat) : Int)) = True := tr (by omega)
  have hlt2 : (0 < t.length + 1) = True := tr (by omega)
  have h : loopOf pr 39 0 ⟨[(2, .op 128 0), (3, .op 192 0), (14, LLE (x :: t)), (15, I ((t.length + 1 : Nat) : Int)), (16, I 0)], [(128, .box [.nilS, .nilS, .nilS]), (512, .arr true false (.int .i64) r), (192, .box [.os (.t 512), .nilS, .empS])]⟩ = some (.exit 0, ⟨[(2, .op 128 0), (3, .op 192 0), (14, LLE (x :: t)), (15, I ((t.length + 1 : Nat) : Int)), (16, I ((t.length + 1 : Nat) : Int))], [(128, .box [.nilS, .nilS, .nilS]), (512, .arr true false (.int .i64) r), (192, .box [.os (.t 512), .os (.t 1600), .empS]), (1600, .arr true true (.slice tyE) (x :: t))]⟩) := by
    have w1 : IntKind.i64.wrap (0 + 1) = ((1 : Nat) : Int) := by rw [wrap_i] <;> omega
    rw [loop_eq pr 39 0 _ Try.f39 fn_39 _ rfl _ ann_39 _ rfl]
    simp -implicitDefEqProofs only [hlt, hlt2, h3, w1, List.getD_cons_zero, Int.le_refl, go_sem, Nat.reduceAdd, Nat.reduceSub, Nat.reduceMul, Nat.reduceMod, Nat.reduceLT, Nat.reduceLeDiff, Nat.reduceEqDiff, Nat.reduceBEq, Nat.reduceDiv, Int.reduceLT, Int.reduceLE, Int.reduceToNat, Int.reduceNeg, Int.reduceEq, ↓reduceIte, reduceCtorEq, ↓reduceDIte]
    exact ih
  rw [call_eq pr 39 _ _ Try.f39 fn_39 _ rfl _ ann_39 rfl]
  simp -implicitDefEqProofs only [h1, h2, h, go_sem, Nat.reduceAdd, Nat.reduceSub, Nat.reduceMul, Nat.reduceMod, Nat.reduceLT, Nat.reduceLeDiff, Nat.reduceEqDiff, Nat.reduceBEq, Nat.reduceDiv, Int.reduceLT, Int.reduceLE, Int.reduceToNat, Int.reduceNeg, Int.reduceEq, ↓reduceIte, reduceCtorEq, ↓reduceDIte]
theorem call_cn1_nil (r : List Int) (h8 : r.length = 8) (b : List Ca) (h0 : ¬ b.length = 0) (hb : b.length < 2000000) : callOf pr 39 [.agg [L r, LLE [], LC b]] [] = some (.agg [.os (.t 512), .nilS, .os (.t 704)], [(512, .arr true false (.int .i64) r), (704, .arr true false tyC b)]) := by
  have h1 := clone_root r h8
  have h2 := clone_buf b h0 hb
  have h : loopOf pr 39 0 ⟨[(2, .op 128 0), (3, .op 192 0), (14, LLE []), (15, I 0), (16, I 0)], [(128, .box [.nilS, .nilS, .nilS]), (512, .arr true false (.int .i64) r), (704, .arr true false tyC b), (192, .box [.os (.t 512), .nilS, .os (.t 704)])]⟩ = some (.exit 0, ⟨[(2, .op 128 0), (3, .op 192 0), (14, LLE []), (15, I 0), (16, I 0)], [(128, .box [.nilS, .nilS, .nilS]), (512, .arr true false (.int .i64) r), (704, .arr true false tyC b), (192, .box [.os (.t 512), .nilS, .os (.t 704)])]⟩) := by
    rw [loop_eq pr 39 0 _ Try.f39 fn_39 _ rfl _ ann_39 _ rfl]
    simp -implicitDefEqProofs only [Int.lt_irrefl, go_sem, Nat.reduceAdd, Nat.reduceSub, Nat.reduceMul, Nat.reduceMod, Nat.reduceLT, Nat.reduceLeDiff, Nat.reduceEqDiff, Nat.reduceBEq, Nat.reduceDiv, Int.reduceLT, Int.reduceLE, Int.reduceToNat, Int.reduceNeg, Int.reduceEq, ↓reduceIte, reduceCtorEq, ↓reduceDIte]
  rw [call_eq pr 39 _ _ Try.f39 fn_39 _ rfl _ ann_39 rfl]
  simp -implicitDefEqProofs only [h1, h2, Int.natCast_zero, h, go_sem, Nat.reduceAdd, Nat.reduceSub, Nat.reduceMul, Nat.reduceMod, Nat.reduceLT, Nat.reduceLeDiff, Nat.reduceEqDiff, Nat.reduceBEq, Nat.reduceDiv, Int.reduceLT, Int.reduceLE, Int.reduceToNat, Int.reduceNeg, Int.reduceEq, ↓reduceIte, reduceCtorEq, ↓reduceDIte]
theorem call_cn1_cons (r : List Int) (h8 : r.length = 8) (b : List Ca) (h0 : ¬ b.length = 0) (hb : b.length < 2000000) (x : List En) (t : List (List En)) (ht : t.length < 900) (hx : ∀ y ∈ x :: t, y.length = 8) : callOf pr 39 [.agg [L r, LLE (x :: t), LC b]] [] = some (.agg [.os (.t 512), .os (.t 1600), .os (.t 704)], [(512, .arr true false (.int .i64) r), (704, .arr true false tyC b), (1600, .arr true true (.slice tyE) (x :: t))]) := by
  have h1 := clone_root r h8
  have h2 := clone_buf b h0 hb
  have h3 := clone_tab x (hx x (by simp))
  have ih := loop_cn12 r b t [x] (by simp; omega) (fun y hy => hx y (by simp [hy]))
  simp only [List.cons_append, List.nil_append, List.length_cons, List.length_nil, Nat.zero_add] at ih
  have hc : (1 : Nat) + t.length = t.length + 1 := by omega
  rw [hc] at ih
  have hlt : ((0 : Int) < ((t.length + 1 : Nat) : Int)) = True := tr (by omega)
  have hlt2 : (0 < t.length + 1) = True := tr (by omega)
  have h : loopOf pr 39 0 ⟨[(2, .op 128 0), (3, .op 192 0), (14, LLE (x :: t)), (15, I ((t.length + 1 : Nat) : Int)), (16, I 0)], [(128, .box [.nilS, .nilS, .nilS]), (512, .arr true false (.int .i64) r), (704, .arr true false tyC b), (192, .box [.os (.t 512), .nilS, .os (.t 704)])]⟩ = some (.exit 0, ⟨[(2, .op 128 0), (3, .op 192 0), (14, LLE (x :: t)), (15, I ((t.length + 1 : Nat) : Int)), (16, I ((t.length + 1 : Nat) : Int))], [(128, .box [.nilS, .nilS, .nilS]), (512, .arr true false (.int .i64) r), (704, .arr true false tyC b), (192, .box [.os (.t 512), .os (.t 1600), .os (.t 704)]), (1600, .arr true true (.slice tyE) (x :: t))]⟩) := by
    have w1 : IntKind.i64.wrap (0 + 1) = ((1 : Nat) : Int) := by rw [wrap_i] <;> omega
    rw [loop_eq pr 39 0 _ Try.f39 fn_39 _ rfl _ ann_39 _ rfl]
    simp -implicitDefEqProofs only [hlt, hlt2, h3, w1, List.getD_cons_zero, Int.le_refl, go_sem, Nat.reduceAdd, Nat.reduceSub, Nat.reduceMul, Nat.reduceMod, Nat.reduceLT, Nat.reduceLeDiff, Nat.reduceEqDiff, Nat.reduceBEq, Nat.reduceDiv, Int.reduceLT, Int.reduceLE, Int.reduceToNat, Int.reduceNeg, Int.reduceEq, ↓reduceIte, reduceCtorEq, ↓reduceDIte]
    exact ih
  rw [call_eq pr 39 _ _ Try.f39 fn_39 _ rfl _ ann_39 rfl]
  simp -implicitDefEqProofs only [h1, h2, h, go_sem, Nat.reduceAdd, Nat.reduceSub, Nat.reduceMul, Nat.reduceMod, Nat.reduceLT, Nat.reduceLeDiff, Nat.reduceEqDiff, Nat.reduceBEq, Nat.reduceDiv, Int.reduceLT, Int.reduceLE, Int.reduceToNat, Int.reduceNeg, Int.reduceEq, ↓reduceIte, reduceCtorEq, ↓reduceDIte]
/-- Tables as they are handed on. -/
def TV (v : AV) (t : List (List En)) : Prop := v = LLE t ∨ (v = .nilS ∧ t = [])
def BV (v : AV) (b : List Ca) : Prop := v = LC b ∨ (v = .nilS ∧ b = []) ∨ (v = .empS ∧ b = [])
/-- A buffer without elements, of its own. -/
theorem eqm_CachedS : callOf pr 42 [.empS, LC []] [] = some (B true, []) := by
  have h : loopOf pr 42 0 ⟨[(0, .empS), (1, LC []), (5, I 0)], []⟩ = some (.exit 0, ⟨[(0, .empS), (1, LC []), (5, I 0)], []⟩) := by
    rw [loop_eq pr 42 0 _ Try.f42 fn_42 _ rfl _ ann_42 _ rfl]
    simp -implicitDefEqProofs only [Int.lt_irrefl, Int.natCast_zero, go_sem, Nat.reduceAdd, Nat.reduceSub, Nat.reduceMul, Nat.reduceMod, Nat.reduceLT, Nat.reduceLeDiff, Nat.reduceEqDiff, Nat.reduceBEq, Nat.reduceDiv, Int.reduceLT, Int.reduceLE, Int.reduceToNat, Int.reduceNeg, Int.reduceEq, ↓reduceIte, reduceCtorEq, ↓reduceDIte]
  rw [call_eq pr 42 _ _ Try.f42 fn_42 _ rfl _ ann_42 rfl]
  simp -implicitDefEqProofs only [h, Int.natCast_zero, go_sem, Nat.reduceAdd, Nat.reduceSub, Nat.reduceMul, Nat.reduceMod, Nat.reduceLT, Nat.reduceLeDiff, Nat.reduceEqDiff, Nat.reduceBEq, Nat.reduceDiv, Int.reduceLT, Int.reduceLE, Int.reduceToNat, Int.reduceNeg, Int.reduceEq, ↓reduceIte, reduceCtorEq, ↓reduceDIte]
theorem heldm_CachedS (m : Int) : callOf pr 48 [.empS, I m] [] = some (I m, []) := by
  have h : loopOf pr 48 0 ⟨[(0, .empS), (1, I m), (5, I 0)], []⟩ = some (.exit 0, ⟨[(0, .empS), (1, I m), (5, I 0)], []⟩) := by
    rw [loop_eq pr 48 0 _ Try.f48 fn_48 _ rfl _ ann_48 _ rfl]
    simp -implicitDefEqProofs only [Int.lt_irrefl, Int.natCast_zero, go_sem, Nat.reduceAdd, Nat.reduceSub, Nat.reduceMul, Nat.reduceMod, Nat.reduceLT, Nat.reduceLeDiff, Nat.reduceEqDiff, Nat.reduceBEq, Nat.reduceDiv, Int.reduceLT, Int.reduceLE, Int.reduceToNat, Int.reduceNeg, Int.reduceEq, ↓reduceIte, reduceCtorEq, ↓reduceDIte]
  rw [call_eq pr 48 _ _ Try.f48 fn_48 _ rfl _ ann_48 rfl]
  simp -implicitDefEqProofs only [h, go_sem, Nat.reduceAdd, Nat.reduceSub, Nat.reduceMul, Nat.reduceMod, Nat.reduceLT, Nat.reduceLeDiff, Nat.reduceEqDiff, Nat.reduceBEq, Nat.reduceDiv, Int.reduceLT, Int.reduceLE, Int.reduceToNat, Int.reduceNeg, Int.reduceEq, ↓reduceIte, reduceCtorEq, ↓reduceDIte]
theorem eq_sp {tv bv : AV} {r : List Int} {t : List (List En)} {b : List Ca} (h1 : TV tv t) (h2 : BV bv b) (hr : Bd wide (.slice (.int .i64)) r) (ht : Bd wide (.slice (.slice tyE)) t) (hb : Bd wide (.slice tyC) b) : callOf pr 13 [.agg [L r, tv, bv], .agg [L r, LLE t, LC b]] [] = some (B true, []) := by
  have g1 : callOf pr 41 [LLE t, LLE t] [] = some (B true, []) := eq_EntrySS t ht
  have g2 : callOf pr 42 [LC b, LC b] [] = some (B true, []) := eq_CachedS b hb
  have g3 : callOf pr 42 [.nilS, LC []] [] = some (B true, []) := eqe_CachedS
  have g4 : callOf pr 41 [.nilS, LLE []] [] = some (B true, []) := eqe_EntrySS
  rcases h1 with rfl | ⟨rfl, rfl⟩
  · rcases h2 with rfl | ⟨rfl, rfl⟩ | ⟨rfl, rfl⟩
    · rw [call_eq pr 13 _ _ Try.f13 fn_13 _ rfl _ ann_13 rfl]
      simp -implicitDefEqProofs only [BEq.rfl, beq_self_eq_true, decide_true, eq_Int64S r hr, g1, g2, go_sem, Nat.reduceAdd, Nat.reduceSub, Nat.reduceMul, Nat.reduceMod, Nat.reduceLT, Nat.reduceLeDiff, Nat.reduceEqDiff, Nat.reduceBEq, Nat.reduceDiv, Int.reduceLT, Int.reduceLE, Int.reduceToNat, Int.reduceNeg, Int.reduceEq, ↓reduceIte, reduceCtorEq, ↓reduceDIte]
    · rw [call_eq pr 13 _ _ Try.f13 fn_13 _ rfl _ ann_13 rfl]
      simp -implicitDefEqProofs only [BEq.rfl, beq_self_eq_true, decide_true, eq_Int64S r hr, g1, g3, go_sem, Nat.reduceAdd, Nat.reduceSub, Nat.reduceMul, Nat.reduceMod, Nat.reduceLT, Nat.reduceLeDiff, Nat.reduceEqDiff, Nat.reduceBEq, Nat.reduceDiv, Int.reduceLT, Int.reduceLE, Int.reduceToNat, Int.reduceNeg, Int.reduceEq, ↓reduceIte, reduceCtorEq, ↓reduceDIte]
    · rw [call_eq pr 13 _ _ Try.f13 fn_13 _ rfl _ ann_13 rfl]
      simp -implicitDefEqProofs only [BEq.rfl, beq_self_eq_true, decide_true, eq_Int64S r hr, g1, eqm_CachedS, go_sem, Nat.reduceAdd, Nat.reduceSub, Nat.reduceMul, Nat.reduceMod, Nat.reduceLT, Nat.reduceLeDiff, Nat.reduceEqDiff, Nat.reduceBEq, Nat.reduceDiv, Int.reduceLT, Int.reduceLE, Int.reduceToNat, Int.reduceNeg, Int.reduceEq, ↓reduceIte, reduceCtorEq, ↓reduceDIte]
  · rcases h2 with rfl | ⟨rfl, rfl⟩ | ⟨rfl, rfl⟩
    · rw [call_eq pr 13 _ _ Try.f13 fn_13 _ rfl _ ann_13 rfl]
      simp -implicitDefEqProofs only [BEq.rfl, beq_self_eq_true, decide_true, eq_Int64S r hr, g4, g2, go_sem, Nat.reduceAdd, Nat.reduceSub, Nat.reduceMul, Nat.reduceMod, Nat.reduceLT, Nat.reduceLeDiff, Nat.reduceEqDiff, Nat.reduceBEq, Nat.reduceDiv, Int.reduceLT, Int.reduceLE, Int.reduceToNat, Int.reduceNeg, Int.reduceEq, ↓reduceIte, reduceCtorEq, ↓reduceDIte]
    · rw [call_eq pr 13 _ _ Try.f13 fn_13 _ rfl _ ann_13 rfl]
      simp -implicitDefEqProofs only [BEq.rfl, beq_self_eq_true, decide_true, eq_Int64S r hr, g4, g3, go_sem, Nat.reduceAdd, Nat.reduceSub, Nat.reduceMul, Nat.reduceMod, Nat.reduceLT, Nat.reduceLeDiff, Nat.reduceEqDiff, Nat.reduceBEq, Nat.reduceDiv, Int.reduceLT, Int.reduceLE, Int.reduceToNat, Int.reduceNeg, Int.reduceEq, ↓reduceIte, reduceCtorEq, ↓reduceDIte]
    · rw [call_eq pr 13 _ _ Try.f13 fn_13 _ rfl _ ann_13 rfl]
      simp -implicitDefEqProofs only [BEq.rfl, beq_self_eq_true, decide_true, eq_Int64S r hr, g4, eqm_CachedS, go_sem, Nat.reduceAdd, Nat.reduceSub, Nat.reduceMul, Nat.reduceMod, Nat.reduceLT, Nat.reduceLeDiff, Nat.reduceEqDiff, Nat.reduceBEq, Nat.reduceDiv, Int.reduceLT, Int.reduceLE, Int.reduceToNat, Int.reduceNeg, Int.reduceEq, ↓reduceIte, reduceCtorEq, ↓reduceDIte]
/-- The number behind the marks of a space. -/
def endS (m : Int) (r : List Int) (t : List (List En)) (b : List Ca) : Int := m + ((cnt (.slice (.int .i64)) r + cnt (.slice (.slice tyE)) t + cnt (.slice tyC) b : Nat) : Int)
def mR (m : Int) (r : List Int) : List Int := (markD (.slice (.int .i64)) m r).1
def mT (m : Int) (r : List Int) (t : List (List En)) : List (List En) := (markD (.slice (.slice tyE)) (markD (.slice (.int .i64)) m r).2 t).1
def mB (m : Int) (r : List Int) (t : List (List En)) (b : List Ca) : List Ca := (markD (.slice tyC) (markD (.slice (.slice tyE)) (markD (.slice (.int .i64)) m r).2 t).2 b).1
theorem end_eq (m : Int) (r : List Int) (t : List (List En)) (b : List Ca) : (markD (.slice tyC) (markD (.slice (.slice tyE)) (markD (.slice (.int .i64)) m r).2 t).2 b).2 = endS m r t b := by
  rw [markD_end, markD_end, markD_end]; simp only [endS]; omega
theorem mT_nil (m : Int) (r : List Int) : mT m r [] = [] := rfl
theorem mB_nil (m : Int) (r : List Int) (t : List (List En)) : mB m r t [] = [] := rfl
theorem held_sp {tv bv : AV} {m : Int} {r : List Int} {t : List (List En)} {b : List Ca} (h1 : TV tv (mT m r t)) (h2 : BV bv (mB m r t b)) (h0 : 0 ≤ m) (hm : endS m r t b ≤ 900000000000000000) (hr : Bd wide (.slice (.int .i64)) r) (ht : Bd wide (.slice (.slice tyE)) t) (hb : Bd wide (.slice tyC) b) : callOf pr 15 [.agg [L (mR m r), tv, bv], I m] [] = some (I (endS m r t b), []) := by
  simp only [endS] at hm
  have q0 := markD_end (.slice (.int .i64)) m r
  have q1 := markD_end (.slice (.slice tyE)) (markD (.slice (.int .i64)) m r).2 t
  have q2 := markD_end (.slice tyC) (markD (.slice (.slice tyE)) (markD (.slice (.int .i64)) m r).2 t).2 b
  have f0 := held_Int64S r m h0 (by simp only [wide]; omega) hr.1
  have c1 : (markD (.slice (.int .i64)) m r).2 + cnt (.slice (.slice tyE)) t ≤ 900000000000000000 := by omega
  have c2 : (markD (.slice (.slice tyE)) (markD (.slice (.int .i64)) m r).2 t).2 + cnt (.slice tyC) b ≤ 900000000000000000 := by omega
  have f1 := held_EntrySS t (markD (.slice (.int .i64)) m r).2 (by omega) c1 ht.1 ht.2
  have f2 := held_CachedS b (markD (.slice (.slice tyE)) (markD (.slice (.int .i64)) m r).2 t).2 (by omega) c2 hb.1
  have n0 : ¬ (markD (.slice (.int .i64)) m r).2 < 0 := by omega
  have n1 : ¬ (markD (.slice (.slice tyE)) (markD (.slice (.int .i64)) m r).2 t).2 < 0 := by omega
  have n2 : ¬ endS m r t b < 0 := by simp only [endS]; omega
  rw [end_eq] at f2
  have f1 : callOf pr 47 [LLE (mT m r t), I (markD (.slice (.int .i64)) m r).2] [] = some (I (markD (.slice (.slice tyE)) (markD (.slice (.int .i64)) m r).2 t).2, []) := f1
  have f2 : callOf pr 48 [LC (mB m r t b), I (markD (.slice (.slice tyE)) (markD (.slice (.int .i64)) m r).2 t).2] [] = some (I (endS m r t b), []) := f2
  have f0 : callOf pr 46 [L (mR m r), I m] [] = some (I (markD (.slice (.int .i64)) m r).2, []) := f0
  have t0 : t = [] → (markD (.slice (.slice tyE)) (markD (.slice (.int .i64)) m r).2 t).2 = (markD (.slice (.int .i64)) m r).2 := by rintro rfl; rfl
  have b0 : b = [] → endS m r t b = (markD (.slice (.slice tyE)) (markD (.slice (.int .i64)) m r).2 t).2 := by rintro rfl; rw [← end_eq]; rfl
  have g1 : callOf pr 47 [tv, I (markD (.slice (.int .i64)) m r).2] [] = some (I (markD (.slice (.slice tyE)) (markD (.slice (.int .i64)) m r).2 t).2, []) := by
    rcases h1 with rfl | ⟨rfl, e⟩
    · exact f1
    · have : t = [] := List.eq_nil_of_length_eq_zero (by
        have : (mT m r t).length = t.length := markS_length _ _ _
        rw [e] at this; simpa using this.symm)
      rw [t0 this]; exact heldn_EntrySS _
  have g2 : callOf pr 48 [bv, I (markD (.slice (.slice tyE)) (markD (.slice (.int .i64)) m r).2 t).2] [] = some (I (endS m r t b), []) := by
    have hz : mB m r t b = [] → b = [] := fun e => List.eq_nil_of_length_eq_zero (by
      have : (mB m r t b).length = b.length := markS_length _ _ _
      rw [e] at this; simpa using this.symm)
    rcases h2 with rfl | ⟨rfl, e⟩ | ⟨rfl, e⟩
    · exact f2
    · rw [b0 (hz e)]; exact heldn_CachedS _
    · rw [b0 (hz e)]; exact heldm_CachedS _
  have hcase : (tv = LLE (mT m r t) ∨ tv = .nilS) ∧ (bv = LC (mB m r t b) ∨ bv = .nilS ∨ bv = .empS) := ⟨by rcases h1 with h | h; exact .inl h; exact .inr h.1, by rcases h2 with h | h | h; exact .inl h; exact .inr (.inl h.1); exact .inr (.inr h.1)⟩
  rcases hcase with ⟨rfl | rfl, rfl | rfl | rfl⟩ <;>
    (rw [call_eq pr 15 _ _ Try.f15 fn_15 _ rfl _ ann_15 rfl]
     simp -implicitDefEqProofs only [f0, fa n0, g1, fa n1, g2, fa n2, go_sem, Nat.reduceAdd, Nat.reduceSub, Nat.reduceMul, Nat.reduceMod, Nat.reduceLT, Nat.reduceLeDiff, Nat.reduceEqDiff, Nat.reduceBEq, Nat.reduceDiv, Int.reduceLT, Int.reduceLE, Int.reduceToNat, Int.reduceNeg, Int.reduceEq, ↓reduceIte, reduceCtorEq, ↓reduceDIte])
/-! marks, by what is memory of its own -/
theorem marke_CachedS (m : Int) : callOf pr 45 [.empS, I m] [] = some (I m, []) := by
  have h : loopOf pr 45 0 ⟨[(0, .empS), (1, I m), (5, I 0)], []⟩ = some (.exit 0, ⟨[(0, .empS), (1, I m), (5, I 0)], []⟩) := by
    rw [loop_eq pr 45 0 _ Try.f45 fn_45 _ rfl _ ann_45 _ rfl]
    simp -implicitDefEqProofs only [Int.lt_irrefl, Int.natCast_zero, go_sem, Nat.reduceAdd, Nat.reduceSub, Nat.reduceMul, Nat.reduceMod, Nat.reduceLT, Nat.reduceLeDiff, Nat.reduceEqDiff, Nat.reduceBEq, Nat.reduceDiv, Int.reduceLT, Int.reduceLE, Int.reduceToNat, Int.reduceNeg, Int.reduceEq, ↓reduceIte, reduceCtorEq, ↓reduceDIte]
  rw [call_eq pr 45 _ _ Try.f45 fn_45 _ rfl _ ann_45 rfl]
  simp -implicitDefEqProofs only [h, go_sem, Nat.reduceAdd, Nat.reduceSub, Nat.reduceMul, Nat.reduceMod, Nat.reduceLT, Nat.reduceLeDiff, Nat.reduceEqDiff, Nat.reduceBEq, Nat.reduceDiv, Int.reduceLT, Int.reduceLE, Int.reduceToNat, Int.reduceNeg, Int.reduceEq, ↓reduceIte, reduceCtorEq, ↓reduceDIte]
theorem markl_CachedU (junk : List Ca) (n : Nat) (xs : List Ca) : ∀ (done : List Ca) (m : Int), done.length + xs.length = n → 0 ≤ m → m + cnt (.slice tyC) xs ≤ 900000000000000000 → done.length + xs.length ≤ 900000000000000000 →
    loopOf pr 45 0 ⟨[(0, .sub (.t 1000000) 0 n), (1, I m), (5, I done.length)], [(1000000, .arr false false tyC (done ++ xs ++ junk))]⟩ = some (.exit 0, ⟨[(0, .sub (.t 1000000) 0 n), (1, I (markD (.slice tyC) m xs).2), (5, I n)], [(1000000, .arr false false tyC (done ++ (markD (.slice tyC) m xs).1 ++ junk))]⟩) := by
  induction xs with
  | nil =>
    intro done m hn h0 h1 hb
    have hn : done.length = n := by simpa using hn
    subst hn
    rw [loop_eq pr 45 0 _ Try.f45 fn_45 _ rfl _ ann_45 _ rfl]
    simp only [markD_slice, markS_nil]
    simp -implicitDefEqProofs only [Int.lt_irrefl, List.append_nil, Nat.add_zero, go_sem, Nat.reduceAdd, Nat.reduceSub, Nat.reduceMul, Nat.reduceMod, Nat.reduceLT, Nat.reduceLeDiff, Nat.reduceEqDiff, Nat.reduceBEq, Nat.reduceDiv, Int.reduceLT, Int.reduceLE, Int.reduceToNat, Int.reduceNeg, Int.reduceEq, ↓reduceIte, reduceCtorEq, ↓reduceDIte]
  | cons x xs ih =>
    intro done m hl h0 h1 hb
    simp only [List.length_cons] at hb hl
    have hn : IntKind.i64.wrap ((done.length : Int) + 1) = ((done.length + 1 : Nat) : Int) := by rw [wrap_i] <;> omega
    have hc : cnt (.slice tyC) (x :: xs) = 3 + cnt (.slice tyC) xs := by simp [cnt, List.map_cons, List.sum_cons]
    rw [hc] at h1
    have hw0 : IntKind.i64.wrap (m + 1) = m + 1 := by rw [wrap_i] <;> omega
    have hw1 : IntKind.i64.wrap (m + 1 + 1) = m + 1 + 1 := by rw [wrap_i] <;> omega
    have hw2 : IntKind.i64.wrap (m + 1 + 1 + 1) = m + 1 + 1 + 1 := by rw [wrap_i] <;> omega
    obtain ⟨a0, a1, a2, ⟨⟩⟩ := x
    have ih := ih (done ++ [(m, m + 1, (decide (Int.tmod (m + 1 + 1) 3 = 0)), ())]) (m + 1 + 1 + 1) (by simp; omega) (by omega) (by omega) (by simp only [List.length_append, List.length_cons, List.length_nil]; omega)
    have e1 : (done ++ [(m, m + 1, (decide (Int.tmod (m + 1 + 1) 3 = 0)), ())]).length = done.length + 1 := by simp
    rw [e1] at ih
    simp only [List.append_assoc, List.cons_append, List.nil_append] at ih ⊢
    have hlt : ((done.length : Int) < (n : Int)) = True := tr (by omega)
    have hle : (done.length < n) = True := tr (by omega)
    rw [loop_eq pr 45 0 _ Try.f45 fn_45 _ rfl _ ann_45 _ rfl]
    simp -implicitDefEqProofs only [getD_app, set_app, lt_app, ltn_app, zero_le_cast, Int.toNat_natCast, hn, hw0, hw1, hw2, hlt, hle, Nat.zero_add, go_sem, Nat.reduceAdd, Nat.reduceSub, Nat.reduceMul, Nat.reduceMod, Nat.reduceLT, Nat.reduceLeDiff, Nat.reduceEqDiff, Nat.reduceBEq, Nat.reduceDiv, Int.reduceLT, Int.reduceLE, Int.reduceToNat, Int.reduceNeg, Int.reduceEq, ↓reduceIte, reduceCtorEq, ↓reduceDIte]
    exact ih
theorem mark_CachedU (junk xs : List Ca) (m : Int) (h0 : 0 ≤ m) (h1 : m + cnt (.slice tyC) xs ≤ 900000000000000000) (hb : xs.length ≤ 900000000000000000) : callOf pr 45 [.sub (.t 1000000) 0 xs.length, I m] [(1000000, .arr false false tyC (xs ++ junk))] = some (I (markD (.slice tyC) m xs).2, [(1000000, .arr false false tyC ((markD (.slice tyC) m xs).1 ++ junk))]) := by
  have h := markl_CachedU junk xs.length xs [] m (by simp) h0 h1 (by rw [List.length_nil, Nat.zero_add]; exact hb)
  simp only [List.nil_append, List.length_nil] at h
  have h : loopOf pr 45 0 ⟨[(0, .sub (.t 1000000) 0 xs.length), (1, I m), (5, I 0)], [(1000000, .arr false false tyC (xs ++ junk))]⟩ = _ := h
  rw [call_eq pr 45 _ _ Try.f45 fn_45 _ rfl _ ann_45 rfl]
  simp -implicitDefEqProofs only [h, go_sem, Nat.reduceAdd, Nat.reduceSub, Nat.reduceMul, Nat.reduceMod, Nat.reduceLT, Nat.reduceLeDiff, Nat.reduceEqDiff, Nat.reduceBEq, Nat.reduceDiv, Int.reduceLT, Int.reduceLE, Int.reduceToNat, Int.reduceNeg, Int.reduceEq, ↓reduceIte, reduceCtorEq, ↓reduceDIte]
theorem mark_parts (m : Int) (r : List Int) (t : List (List En)) (b : List Ca) (h0 : 0 ≤ m) (hm : endS m r t b ≤ 900000000000000000) (hr : Bd wide (.slice (.int .i64)) r) (ht : Bd wide (.slice (.slice tyE)) t) (hb : Bd wide (.slice tyC) b) : callOf pr 43 [.os (.t 1000000), I m] [(1000000, .arr false false (.int .i64) r)] = some (I (markD (.slice (.int .i64)) m r).2, [(1000000, .arr false false (.int .i64) (mR m r))]) ∧
    callOf pr 44 [.os (.t 1000000), I (markD (.slice (.int .i64)) m r).2] [(1000000, .arr false true (.slice tyE) t)] = some (I (markD (.slice (.slice tyE)) (markD (.slice (.int .i64)) m r).2 t).2, [(1000000, .arr false true (.slice tyE) (mT m r t))]) ∧
    callOf pr 45 [.os (.t 1000000), I (markD (.slice (.slice tyE)) (markD (.slice (.int .i64)) m r).2 t).2] [(1000000, .arr false false tyC b)] = some (I (endS m r t b), [(1000000, .arr false false tyC (mB m r t b))]) ∧
    ∀ junk, callOf pr 45 [.sub (.t 1000000) 0 b.length, I (markD (.slice (.slice tyE)) (markD (.slice (.int .i64)) m r).2 t).2] [(1000000, .arr false false tyC (b ++ junk))] = some (I (endS m r t b), [(1000000, .arr false false tyC (mB m r t b ++ junk))]) := by
  simp only [endS] at hm
  have q0 := markD_end (.slice (.int .i64)) m r
  have q1 := markD_end (.slice (.slice tyE)) (markD (.slice (.int .i64)) m r).2 t
  have q2 := markD_end (.slice tyC) (markD (.slice (.slice tyE)) (markD (.slice (.int .i64)) m r).2 t).2 b
  have c1 : (markD (.slice (.int .i64)) m r).2 + cnt (.slice (.slice tyE)) t ≤ 900000000000000000 := by omega
  have c2 : (markD (.slice (.slice tyE)) (markD (.slice (.int .i64)) m r).2 t).2 + cnt (.slice tyC) b ≤ 900000000000000000 := by omega
  refine ⟨mark_Int64S r m h0 (by simp only [wide]; omega) hr.1, mark_EntrySS t (markD (.slice (.int .i64)) m r).2 (by omega) c1 ht.1 ht.2, ?_, fun junk => ?_⟩
  · rw [← end_eq]; exact mark_CachedS b _ (by omega) c2 hb.1
  · rw [← end_eq]; exact mark_CachedU junk b _ (by omega) c2 (by have := hb.1; simp only [wide] at this; exact this)
theorem mark_s00 (m : Int) (r : List Int) (t : List (List En)) (b : List Ca) (h0 : 0 ≤ m) (hm : endS m r t b ≤ 900000000000000000) (hr : Bd wide (.slice (.int .i64)) r) (ht : Bd wide (.slice (.slice tyE)) t) (hb : Bd wide (.slice tyC) b) (hc : t = [] ∧ b = []) : callOf pr 14 [.agg [.os (.t 1000000), .nilS, .nilS], I m] [(1000000, .arr false false (.int .i64) r)] = some (I (endS m r t b), [(1000000, .arr false false (.int .i64) (mR m r))]) := by
  obtain ⟨rfl, rfl⟩ := hc
  obtain ⟨f0, f1, f2, f3⟩ := mark_parts m r _ _ h0 hm hr ht hb
  have e3 : endS m r [] [] = (markD (.slice (.slice tyE)) (markD (.slice (.int .i64)) m r).2 []).2 := (end_eq m r [] []).symm; have e2 : (markD (.slice (.slice tyE)) (markD (.slice (.int .i64)) m r).2 []).2 = (markD (.slice (.int .i64)) m r).2 := rfl; rw [e3, e2]
  rw [call_eq pr 14 _ _ Try.f14 fn_14 _ rfl _ ann_14 rfl]
  simp -implicitDefEqProofs only [f0, markn_EntrySS, markn_CachedS, go_sem, Nat.reduceAdd, Nat.reduceSub, Nat.reduceMul, Nat.reduceMod, Nat.reduceLT, Nat.reduceLeDiff, Nat.reduceEqDiff, Nat.reduceBEq, Nat.reduceDiv, Int.reduceLT, Int.reduceLE, Int.reduceToNat, Int.reduceNeg, Int.reduceEq, ↓reduceIte, reduceCtorEq, ↓reduceDIte]
theorem mark_s01 (m : Int) (r : List Int) (t : List (List En)) (b : List Ca) (h0 : 0 ≤ m) (hm : endS m r t b ≤ 900000000000000000) (hr : Bd wide (.slice (.int .i64)) r) (ht : Bd wide (.slice (.slice tyE)) t) (hb : Bd wide (.slice tyC) b) (hc : t = [] ∧ b = []) : callOf pr 14 [.agg [.os (.t 1000000), .nilS, .empS], I m] [(1000000, .arr false false (.int .i64) r)] = some (I (endS m r t b), [(1000000, .arr false false (.int .i64) (mR m r))]) := by
  obtain ⟨rfl, rfl⟩ := hc
  obtain ⟨f0, f1, f2, f3⟩ := mark_parts m r _ _ h0 hm hr ht hb
  have e3 : endS m r [] [] = (markD (.slice (.slice tyE)) (markD (.slice (.int .i64)) m r).2 []).2 := (end_eq m r [] []).symm; have e2 : (markD (.slice (.slice tyE)) (markD (.slice (.int .i64)) m r).2 []).2 = (markD (.slice (.int .i64)) m r).2 := rfl; rw [e3, e2]
  rw [call_eq pr 14 _ _ Try.f14 fn_14 _ rfl _ ann_14 rfl]
  simp -implicitDefEqProofs only [f0, markn_EntrySS, marke_CachedS, go_sem, Nat.reduceAdd, Nat.reduceSub, Nat.reduceMul, Nat.reduceMod, Nat.reduceLT, Nat.reduceLeDiff, Nat.reduceEqDiff, Nat.reduceBEq, Nat.reduceDiv, Int.reduceLT, Int.reduceLE, Int.reduceToNat, Int.reduceNeg, Int.reduceEq, ↓reduceIte, reduceCtorEq, ↓reduceDIte]
theorem mark_s02 (m : Int) (r : List Int) (t : List (List En)) (b : List Ca) (h0 : 0 ≤ m) (hm : endS m r t b ≤ 900000000000000000) (hr : Bd wide (.slice (.int .i64)) r) (ht : Bd wide (.slice (.slice tyE)) t) (hb : Bd wide (.slice tyC) b) (hc : t = []) : callOf pr 14 [.agg [.os (.t 1000000), .nilS, .os (.t 1000001)], I m] [(1000000, .arr false false (.int .i64) r), (1000001, .arr false false tyC b)] = some (I (endS m r t b), [(1000000, .arr false false (.int .i64) (mR m r)), (1000001, .arr false false tyC (mB m r t b))]) := by
  subst hc
  obtain ⟨f0, f1, f2, f3⟩ := mark_parts m r _ _ h0 hm hr ht hb
  have e2 : (markD (.slice (.slice tyE)) (markD (.slice (.int .i64)) m r).2 []).2 = (markD (.slice (.int .i64)) m r).2 := rfl; rw [e2] at f2 f3
  rw [call_eq pr 14 _ _ Try.f14 fn_14 _ rfl _ ann_14 rfl]
  simp -implicitDefEqProofs only [f0, markn_EntrySS, f2, go_sem, Nat.reduceAdd, Nat.reduceSub, Nat.reduceMul, Nat.reduceMod, Nat.reduceLT, Nat.reduceLeDiff, Nat.reduceEqDiff, Nat.reduceBEq, Nat.reduceDiv, Int.reduceLT, Int.reduceLE, Int.reduceToNat, Int.reduceNeg, Int.reduceEq, ↓reduceIte, reduceCtorEq, ↓reduceDIte]
theorem mark_s0u (m : Int) (r : List Int) (t : List (List En)) (b : List Ca) (h0 : 0 ≤ m) (hm : endS m r t b ≤ 900000000000000000) (hr : Bd wide (.slice (.int .i64)) r) (ht : Bd wide (.slice (.slice tyE)) t) (hb : Bd wide (.slice tyC) b) (junk : List Ca) (hc : t = []) : callOf pr 14 [.agg [.os (.t 1000000), .nilS, .sub (.t 1000001) 0 b.length], I m] [(1000000, .arr false false (.int .i64) r), (1000001, .arr false false tyC (b ++ junk))] = some (I (endS m r t b), [(1000000, .arr false false (.int .i64) (mR m r)), (1000001, .arr false false tyC (mB m r t b ++ junk))]) := by
  subst hc
  obtain ⟨f0, f1, f2, f3⟩ := mark_parts m r _ _ h0 hm hr ht hb
  have e2 : (markD (.slice (.slice tyE)) (markD (.slice (.int .i64)) m r).2 []).2 = (markD (.slice (.int .i64)) m r).2 := rfl; rw [e2] at f2 f3
  rw [call_eq pr 14 _ _ Try.f14 fn_14 _ rfl _ ann_14 rfl]
  simp -implicitDefEqProofs only [f0, markn_EntrySS, f3 junk, go_sem, Nat.reduceAdd, Nat.reduceSub, Nat.reduceMul, Nat.reduceMod, Nat.reduceLT, Nat.reduceLeDiff, Nat.reduceEqDiff, Nat.reduceBEq, Nat.reduceDiv, Int.reduceLT, Int.reduceLE, Int.reduceToNat, Int.reduceNeg, Int.reduceEq, ↓reduceIte, reduceCtorEq, ↓reduceDIte]
theorem mark_s10 (m : Int) (r : List Int) (t : List (List En)) (b : List Ca) (h0 : 0 ≤ m) (hm : endS m r t b ≤ 900000000000000000) (hr : Bd wide (.slice (.int .i64)) r) (ht : Bd wide (.slice (.slice tyE)) t) (hb : Bd wide (.slice tyC) b) (hc : b = []) : callOf pr 14 [.agg [.os (.t 1000000), .os (.t 1000001), .nilS], I m] [(1000000, .arr false false (.int .i64) r), (1000001, .arr false true (.slice tyE) t)] = some (I (endS m r t b), [(1000000, .arr false false (.int .i64) (mR m r)), (1000001, .arr false true (.slice tyE) (mT m r t))]) := by
  subst hc
  obtain ⟨f0, f1, f2, f3⟩ := mark_parts m r _ _ h0 hm hr ht hb
  have e3 : endS m r t [] = (markD (.slice (.slice tyE)) (markD (.slice (.int .i64)) m r).2 t).2 := (end_eq m r t []).symm; rw [e3]
  rw [call_eq pr 14 _ _ Try.f14 fn_14 _ rfl _ ann_14 rfl]
  simp -implicitDefEqProofs only [f0, f1, markn_CachedS, go_sem, Nat.reduceAdd, Nat.reduceSub, Nat.reduceMul, Nat.reduceMod, Nat.reduceLT, Nat.reduceLeDiff, Nat.reduceEqDiff, Nat.reduceBEq, Nat.reduceDiv, Int.reduceLT, Int.reduceLE, Int.reduceToNat, Int.reduceNeg, Int.reduceEq, ↓reduceIte, reduceCtorEq, ↓reduceDIte]
theorem mark_s11 (m : Int) (r : List Int) (t : List (List En)) (b : List Ca) (h0 : 0 ≤ m) (hm : endS m r t b ≤ 900000000000000000) (hr : Bd wide (.slice (.int .i64)) r) (ht : Bd wide (.slice (.slice tyE)) t) (hb : Bd wide (.slice tyC) b) (hc : b = []) : callOf pr 14 [.agg [.os (.t 1000000), .os (.t 1000001), .empS], I m] [(1000000, .arr false false (.int .i64) r), (1000001, .arr false true (.slice tyE) t)] = some (I (endS m r t b), [(1000000, .arr false false (.int .i64) (mR m r)), (1000001, .arr false true (.slice tyE) (mT m r t))]) := by
  subst hc
  obtain ⟨f0, f1, f2, f3⟩ := mark_parts m r _ _ h0 hm hr ht hb
  have e3 : endS m r t [] = (markD (.slice (.slice tyE)) (markD (.slice (.int .i64)) m r).2 t).2 := (end_eq m r t []).symm; rw [e3]
  rw [call_eq pr 14 _ _ Try.f14 fn_14 _ rfl _ ann_14 rfl]
  simp -implicitDefEqProofs only [f0, f1, marke_CachedS, go_sem, Nat.reduceAdd, Nat.reduceSub, Nat.reduceMul, Nat.reduceMod, Nat.reduceLT, Nat.reduceLeDiff, Nat.reduceEqDiff, Nat.reduceBEq, Nat.reduceDiv, Int.reduceLT, Int.reduceLE, Int.reduceToNat, Int.reduceNeg, Int.reduceEq, ↓reduceIte, reduceCtorEq, ↓reduceDIte]
theorem mark_s12 (m : Int) (r : List Int) (t : List (List En)) (b : List Ca) (h0 : 0 ≤ m) (hm : endS m r t b ≤ 900000000000000000) (hr : Bd wide (.slice (.int .i64)) r) (ht : Bd wide (.slice (.slice tyE)) t) (hb : Bd wide (.slice tyC) b)  : callOf pr 14 [.agg [.os (.t 1000000), .os (.t 1000001), .os (.t 1000002)], I m] [(1000000, .arr false false (.int .i64) r), (1000001, .arr false true (.slice tyE) t), (1000002, .arr false false tyC b)] = some (I (endS m r t b), [(1000000, .arr false false (.int .i64) (mR m r)), (1000001, .arr false true (.slice tyE) (mT m r t)), (1000002, .arr false false tyC (mB m r t b))]) := by
  skip
  obtain ⟨f0, f1, f2, f3⟩ := mark_parts m r _ _ h0 hm hr ht hb
  skip
  rw [call_eq pr 14 _ _ Try.f14 fn_14 _ rfl _ ann_14 rfl]
  simp -implicitDefEqProofs only [f0, f1, f2, go_sem, Nat.reduceAdd, Nat.reduceSub, Nat.reduceMul, Nat.reduceMod, Nat.reduceLT, Nat.reduceLeDiff, Nat.reduceEqDiff, Nat.reduceBEq, Nat.reduceDiv, Int.reduceLT, Int.reduceLE, Int.reduceToNat, Int.reduceNeg, Int.reduceEq, ↓reduceIte, reduceCtorEq, ↓reduceDIte]
theorem mark_s1u (m : Int) (r : List Int) (t : List (List En)) (b : List Ca) (h0 : 0 ≤ m) (hm : endS m r t b ≤ 900000000000000000) (hr : Bd wide (.slice (.int .i64)) r) (ht : Bd wide (.slice (.slice tyE)) t) (hb : Bd wide (.slice tyC) b) (junk : List Ca) : callOf pr 14 [.agg [.os (.t 1000000), .os (.t 1000001), .sub (.t 1000002) 0 b.length], I m] [(1000000, .arr false false (.int .i64) r), (1000001, .arr false true (.slice tyE) t), (1000002, .arr false false tyC (b ++ junk))] = some (I (endS m r t b), [(1000000, .arr false false (.int .i64) (mR m r)), (1000001, .arr false true (.slice tyE) (mT m r t)), (1000002, .arr false false tyC (mB m r t b ++ junk))]) := by
  skip
  obtain ⟨f0, f1, f2, f3⟩ := mark_parts m r _ _ h0 hm hr ht hb
  skip
  rw [call_eq pr 14 _ _ Try.f14 fn_14 _ rfl _ ann_14 rfl]
  simp -implicitDefEqProofs only [f0, f1, f3 junk, go_sem, Nat.reduceAdd, Nat.reduceSub, Nat.reduceMul, Nat.reduceMod, Nat.reduceLT, Nat.reduceLeDiff, Nat.reduceEqDiff, Nat.reduceBEq, Nat.reduceDiv, Int.reduceLT, Int.reduceLE, Int.reduceToNat, Int.reduceNeg, Int.reduceEq, ↓reduceIte, reduceCtorEq, ↓reduceDIte]
/-- An entry whose page counts as used if it is dirty. -/
def clrE (e : En) : En := (e.1, e.2.1, e.2.2.2.1, e.2.2.2.1, ())
def clrT (t : List (List En)) : List (List En) := t.map fun x => x.map clrE
theorem clrT_length (t : List (List En)) : (clrT t).length = t.length := by simp [clrT]
theorem clrT_rows {t : List (List En)} (h : ∀ x ∈ t, x.length = 8) : ∀ x ∈ clrT t, x.length = 8 := by
  intro x hx
  simp only [clrT, List.mem_map] at hx
  obtain ⟨y, hy, rfl⟩ := hx
  simp [h y hy]
theorem clrT_app (a b : List (List En)) : clrT (a ++ b) = clrT a ++ clrT b := by simp [clrT]
theorem map_app1 {α β : Type} (f : α → β) (p : List α) (x : α) (r : List β) : (p ++ [x]).map f ++ r = p.map f ++ f x :: r := by simp
theorem loop_sc1 (r : List Int) (b : List Ca) (tpre tsuf : List (List En)) : ∀ (suf pre : List En), pre.length + suf.length = 8 →
    loopOf pr 16 1 ⟨[(2, .op 128 0), (4, .op 256 0), (5, I tpre.length), (6, I pre.length)], [(128, .box [.nilS, .nilS, .nilS]), (640, .arr true false (.int .i64) r), (641, .arr true false tyC b), (642, .arr true true (.slice tyE) (tpre ++ (pre.map clrE ++ suf) :: tsuf)), (256, .box [.os (.t 640), .os (.t 642), .os (.t 641)])]⟩ = some (.exit 2, ⟨[(2, .op 128 0), (4, .op 256 0), (5, I tpre.length), (6, I 8)], [(128, .box [.nilS, .nilS, .nilS]), (640, .arr true false (.int .i64) r), (641, .arr true false tyC b), (642, .arr true true (.slice tyE) (tpre ++ ((pre ++ suf).map clrE) :: tsuf)), (256, .box [.os (.t 640), .os (.t 642), .os (.t 641)])]⟩)
  | [], pre, hl => by
    have hp : ((pre.length : Int) < 8) = False := fa (by simp at hl; omega)
    have he : (pre.length : Int) = 8 := by simp at hl; omega
    rw [loop_eq pr 16 1 _ Try.f16 fn_16 _ rfl _ ann_16 _ rfl]
    simp -implicitDefEqProofs only [hp, List.append_nil, he, Int.lt_irrefl, go_sem, Nat.reduceAdd, Nat.reduceSub, Nat.reduceMul, Nat.reduceMod, Nat.reduceLT, Nat.reduceLeDiff, Nat.reduceEqDiff, Nat.reduceBEq, Nat.reduceDiv, Int.reduceLT, Int.reduceLE, Int.reduceToNat, Int.reduceNeg, Int.reduceEq, ↓reduceIte, reduceCtorEq, ↓reduceDIte]
  | (f, w, u, d, ()) :: suf, pre, hl => by
    simp only [List.length_cons] at hl
    have hp : ((pre.length : Int) < 8) = True := tr (by omega)
    have hw : IntKind.i64.wrap ((pre.length : Int) + 1) = ((pre.length + 1 : Nat) : Int) := by rw [wrap_i] <;> omega
    have e1 : (pre ++ [(f, w, u, d, ())]).length = pre.length + 1 := by simp
    have ih := loop_sc1 r b tpre tsuf suf (pre ++ [(f, w, u, d, ())]) (by simp; omega)
    rw [e1, map_app1, app_one] at ih
    have q1 : pre.length = (pre.map clrE).length := by simp
    rw [loop_eq pr 16 1 _ Try.f16 fn_16 _ rfl _ ann_16 _ rfl]
    have g1 : ∀ z : En, ((pre.map clrE) ++ (f, w, u, d, ()) :: suf).getD pre.length z = (f, w, u, d, ()) := by intro z; rw [q1]; simp
    have g2 : ∀ y : En, ((pre.map clrE) ++ (f, w, u, d, ()) :: suf).set pre.length y = (pre.map clrE) ++ y :: suf := by intro y; rw [q1]; simp
    have g3 : ((pre.length : Int) < ((((pre.map clrE) ++ (f, w, u, d, ()) :: suf).length : Nat) : Int)) = True := tr (by simp; omega)
    have g4 : (pre.length < ((pre.map clrE) ++ (f, w, u, d, ()) :: suf).length) = True := tr (by simp)
    simp -implicitDefEqProofs only [getD_app, set_app, lt_app, ltn_app, zero_le_cast, Int.toNat_natCast, hp, hw, g1, g2, g3, g4, go_sem, Nat.reduceAdd, Nat.reduceSub, Nat.reduceMul, Nat.reduceMod, Nat.reduceLT, Nat.reduceLeDiff, Nat.reduceEqDiff, Nat.reduceBEq, Nat.reduceDiv, Int.reduceLT, Int.reduceLE, Int.reduceToNat, Int.reduceNeg, Int.reduceEq, ↓reduceIte, reduceCtorEq, ↓reduceDIte]
    exact ih
theorem loop_sc (r : List Int) (b : List Ca) : ∀ (suf pre : List (List En)), pre.length + suf.length ≤ 8 → (∀ x ∈ suf, x.length = 8) →
    loopOf pr 16 0 ⟨[(2, .op 128 0), (4, .op 256 0), (5, I pre.length)], [(128, .box [.nilS, .nilS, .nilS]), (640, .arr true false (.int .i64) r), (641, .arr true false tyC b), (642, .arr true true (.slice tyE) (clrT pre ++ suf)), (256, .box [.os (.t 640), .os (.t 642), .os (.t 641)])]⟩ = some (.exit 0, ⟨[(2, .op 128 0), (4, .op 256 0), (5, I ((pre.length + suf.length : Nat) : Int))], [(128, .box [.nilS, .nilS, .nilS]), (640, .arr true false (.int .i64) r), (641, .arr true false tyC b), (642, .arr true true (.slice tyE) (clrT (pre ++ suf))), (256, .box [.os (.t 640), .os (.t 642), .os (.t 641)])]⟩)
  | [], pre, hl, hx => by
    have g := clrT_length pre
    rw [loop_eq pr 16 0 _ Try.f16 fn_16 _ rfl _ ann_16 _ rfl]
    simp -implicitDefEqProofs only [g, List.append_nil, Int.lt_irrefl, List.length_nil, Nat.add_zero, go_sem, Nat.reduceAdd, Nat.reduceSub, Nat.reduceMul, Nat.reduceMod, Nat.reduceLT, Nat.reduceLeDiff, Nat.reduceEqDiff, Nat.reduceBEq, Nat.reduceDiv, Int.reduceLT, Int.reduceLE, Int.reduceToNat, Int.reduceNeg, Int.reduceEq, ↓reduceIte, reduceCtorEq, ↓reduceDIte]
  | x :: suf, pre, hl, hx => by
    simp only [List.length_cons] at hl
    have hw : IntKind.i64.wrap ((pre.length : Int) + 1) = ((pre.length + 1 : Nat) : Int) := by rw [wrap_i] <;> omega
    have e1 : (pre ++ [x]).length = pre.length + 1 := by simp
    have e2 : pre.length + 1 + suf.length = pre.length + (suf.length + 1) := by omega
    have ih := loop_sc r b suf (pre ++ [x]) (by simp; omega) (fun y hy => hx y (by simp [hy]))
    have c1 : clrT (pre ++ [x]) ++ suf = clrT pre ++ (x.map clrE) :: suf := by simp [clrT]
    rw [e1, e2, c1, app_one] at ih
    have h := loop_sc1 r b (clrT pre) suf x [] (by simpa using hx x (by simp))
    simp only [clrT_length, List.map_nil, List.nil_append, List.length_nil] at h
    have h : loopOf pr 16 1 ⟨[(2, .op 128 0), (4, .op 256 0), (5, I pre.length), (6, I 0)], [(128, .box [.nilS, .nilS, .nilS]), (640, .arr true false (.int .i64) r), (641, .arr true false tyC b), (642, .arr true true (.slice tyE) (clrT pre ++ x :: suf)), (256, .box [.os (.t 640), .os (.t 642), .os (.t 641)])]⟩ = _ := h
    rw [loop_eq pr 16 0 _ Try.f16 fn_16 _ rfl _ ann_16 _ rfl]
    have g3 : ((pre.length : Int) < (((clrT pre ++ x :: suf).length : Nat) : Int)) = True := tr (by simp [clrT]; omega)
    simp -implicitDefEqProofs only [g3, hw, h, List.length_cons, go_sem, Nat.reduceAdd, Nat.reduceSub, Nat.reduceMul, Nat.reduceMod, Nat.reduceLT, Nat.reduceLeDiff, Nat.reduceEqDiff, Nat.reduceBEq, Nat.reduceDiv, Int.reduceLT, Int.reduceLE, Int.reduceToNat, Int.reduceNeg, Int.reduceEq, ↓reduceIte, reduceCtorEq, ↓reduceDIte]
    exact ih
theorem call_sc (r : List Int) (t : List (List En)) (b : List Ca) (hb : b.length < 2000000) : callOf pr 16 [.agg [L r, LLE t, LC b]] [] = if specS r t b = true then some (.tuple [.agg [.os (.t 640), .os (.t 642), .os (.t 641)], B true], [(640, .arr true false (.int .i64) r), (641, .arr true false tyC b), (642, .arr true true (.slice tyE) (clrT t))]) else some (.tuple [.agg [.nilS, .nilS, .nilS], B false], []) := by
  have h1 := call_si r t b
  rw [call_eq pr 16 _ _ Try.f16 fn_16 _ rfl _ ann_16 rfl]
  cases hs : specS r t b with
  | true =>
    rw [hs] at h1
    have ht : tabB r t = true := by
      simp only [specS, Bool.and_eq_true] at hs
      exact hs.1.1.1
    obtain ⟨s1, s2, s3, s4⟩ := tabB_spec ht
    have h2 := call_so r t b (by omega) (by omega) (fun x hx' => by rw [s3 x hx']; omega) hb
    have h := loop_sc r b t [] (by simpa using s2) s3
    simp only [clrT, List.map_nil, List.nil_append, List.length_nil, Nat.zero_add] at h
    have h : loopOf pr 16 0 ⟨[(2, .op 128 0), (4, .op 256 0), (5, I 0)], [(128, .box [.nilS, .nilS, .nilS]), (640, .arr true false (.int .i64) r), (641, .arr true false tyC b), (642, .arr true true (.slice tyE) t), (256, .box [.os (.t 640), .os (.t 642), .os (.t 641)])]⟩ = _ := h
    rw [if_pos rfl]
    simp -implicitDefEqProofs only [h1, h2, h, go_sem, Nat.reduceAdd, Nat.reduceSub, Nat.reduceMul, Nat.reduceMod, Nat.reduceLT, Nat.reduceLeDiff, Nat.reduceEqDiff, Nat.reduceBEq, Nat.reduceDiv, Int.reduceLT, Int.reduceLE, Int.reduceToNat, Int.reduceNeg, Int.reduceEq, ↓reduceIte, reduceCtorEq, ↓reduceDIte]
    rfl
  | false =>
    rw [hs] at h1
    rw [if_neg (by simp)]
    simp -implicitDefEqProofs only [h1, go_sem, Nat.reduceAdd, Nat.reduceSub, Nat.reduceMul, Nat.reduceMod, Nat.reduceLT, Nat.reduceLeDiff, Nat.reduceEqDiff, Nat.reduceBEq, Nat.reduceDiv, Int.reduceLT, Int.reduceLE, Int.reduceToNat, Int.reduceNeg, Int.reduceEq, ↓reduceIte, reduceCtorEq, ↓reduceDIte]
/-- What a copy of a space is, by what is empty. -/
theorem clone4 (r : List Int) (t : List (List En)) (b : List Ca) (h8 : r.length = 8) (hb : b.length < 2000000) (ht : t.length < 900) (hx : ∀ y ∈ t, y.length = 8) :
    (t = [] ∧ b = [] ∧ callOf pr 39 [.agg [L r, LLE t, LC b]] [] = some (.agg [.os (.t 512), .nilS, .empS], [(512, .arr true false (.int .i64) r)])) ∨
    (t = [] ∧ callOf pr 39 [.agg [L r, LLE t, LC b]] [] = some (.agg [.os (.t 512), .nilS, .os (.t 704)], [(512, .arr true false (.int .i64) r), (704, .arr true false tyC b)])) ∨
    (b = [] ∧ t ≠ [] ∧ callOf pr 39 [.agg [L r, LLE t, LC b]] [] = some (.agg [.os (.t 512), .os (.t 1600), .empS], [(512, .arr true false (.int .i64) r), (1600, .arr true true (.slice tyE) t)])) ∨
    (t ≠ [] ∧ callOf pr 39 [.agg [L r, LLE t, LC b]] [] = some (.agg [.os (.t 512), .os (.t 1600), .os (.t 704)], [(512, .arr true false (.int .i64) r), (704, .arr true false tyC b), (1600, .arr true true (.slice tyE) t)])) := by
  by_cases h0 : b.length = 0
  · have hb0 : b = [] := List.eq_nil_of_length_eq_zero h0
    subst hb0
    cases t with
    | nil => exact .inl ⟨rfl, rfl, call_cn0_nil r h8⟩
    | cons x t => exact .inr (.inr (.inl ⟨rfl, by simp, call_cn0_cons r h8 x t (by simp at ht; omega) hx⟩))
  · cases t with
    | nil => exact .inr (.inl ⟨rfl, call_cn1_nil r h8 b h0 hb⟩)
    | cons x t => exact .inr (.inr (.inr ⟨by simp, call_cn1_cons r h8 b h0 hb x t (by simp at ht; omega) hx⟩))
theorem spec_tab {r : List Int} {t : List (List En)} {b : List Ca} (hs : specS r t b = true) : r.length = 8 ∧ t.length ≤ 8 ∧ (∀ x ∈ t, x.length = 8) ∧ (∀ x ∈ r, -1 ≤ x ∧ x ≤ (t.length : Int) - 1) ∧ b.length ≤ 4 := by
  simp only [specS, Bool.and_eq_true, decide_eq_true_eq] at hs
  obtain ⟨s1, s2, s3, s4⟩ := tabB_spec hs.1.1.1
  exact ⟨s1, s2, s3, s4, hs.1.1.2⟩
theorem loop_icj0 (r : List Int) (b : List Ca) (n : Int) (tpre tsuf : List (List En)) : ∀ (suf pre : List En), pre.length + suf.length = 8 →
    loopOf pr 17 1 ⟨[(2, .op 128 0), (4, .op 256 0), (6, .os (.n 833 tpre.length 0)), (15, .os (.t 833)), (16, I n), (17, I tpre.length), (22, I 8), (23, I pre.length)], [(128, .box [.nilS, .nilS, .nilS]), (832, .arr true false (.int .i64) r), (833, .arr true true (.slice tyE) (tpre ++ (pre.map clrE ++ suf) :: tsuf)), (256, .box [.os (.t 832), .os (.t 833), .empS])]⟩ = some (.exit 2, ⟨[(2, .op 128 0), (4, .op 256 0), (6, .os (.n 833 tpre.length 0)), (15, .os (.t 833)), (16, I n), (17, I tpre.length), (22, I 8), (23, I 8)], [(128, .box [.nilS, .nilS, .nilS]), (832, .arr true false (.int .i64) r), (833, .arr true true (.slice tyE) (tpre ++ ((pre ++ suf).map clrE) :: tsuf)), (256, .box [.os (.t 832), .os (.t 833), .empS])]⟩)
  | [], pre, hl => by
    have hp : ((pre.length : Int) < 8) = False := fa (by simp at hl; omega)
    have he : (pre.length : Int) = 8 := by simp at hl; omega
    rw [loop_eq pr 17 1 _ Try.f17 fn_17 _ rfl _ ann_17 _ rfl]
    simp -implicitDefEqProofs only [hp, List.append_nil, he, Int.lt_irrefl, go_sem, Nat.reduceAdd, Nat.reduceSub, Nat.reduceMul, Nat.reduceMod, Nat.reduceLT, Nat.reduceLeDiff, Nat.reduceEqDiff, Nat.reduceBEq, Nat.reduceDiv, Int.reduceLT, Int.reduceLE, Int.reduceToNat, Int.reduceNeg, Int.reduceEq, ↓reduceIte, reduceCtorEq, ↓reduceDIte]
  | (f, w, u, d, ()) :: suf, pre, hl => by
    simp only [List.length_cons] at hl
    have hp : ((pre.length : Int) < 8) = True := tr (by omega)
    have hw : IntKind.i64.wrap ((pre.length : Int) + 1) = ((pre.length + 1 : Nat) : Int) := by rw [wrap_i] <;> omega
    have e1 : (pre ++ [(f, w, u, d, ())]).length = pre.length + 1 := by simp
    have ih := loop_icj0 r b n tpre tsuf suf (pre ++ [(f, w, u, d, ())]) (by simp; omega)
    rw [e1, map_app1, app_one] at ih
    have q1 : pre.length = (pre.map clrE).length := by simp
    rw [loop_eq pr 17 1 _ Try.f17 fn_17 _ rfl _ ann_17 _ rfl]
    have g1 : ∀ z : En, ((pre.map clrE) ++ (f, w, u, d, ()) :: suf).getD pre.length z = (f, w, u, d, ()) := by intro z; rw [q1]; simp
    have g2 : ∀ y : En, ((pre.map clrE) ++ (f, w, u, d, ()) :: suf).set pre.length y = (pre.map clrE) ++ y :: suf := by intro y; rw [q1]; simp
    have g3 : ((pre.length : Int) < ((((pre.map clrE) ++ (f, w, u, d, ()) :: suf).length : Nat) : Int)) = True := tr (by simp; omega)
    have g4 : (pre.length < ((pre.map clrE) ++ (f, w, u, d, ()) :: suf).length) = True := tr (by simp)
    simp -implicitDefEqProofs only [getD_app, set_app, lt_app, ltn_app, zero_le_cast, Int.toNat_natCast, hp, hw, g1, g2, g3, g4, go_sem, Nat.reduceAdd, Nat.reduceSub, Nat.reduceMul, Nat.reduceMod, Nat.reduceLT, Nat.reduceLeDiff, Nat.reduceEqDiff, Nat.reduceBEq, Nat.reduceDiv, Int.reduceLT, Int.reduceLE, Int.reduceToNat, Int.reduceNeg, Int.reduceEq, ↓reduceIte, reduceCtorEq, ↓reduceDIte]
    exact ih
theorem loop_ici0 (r : List Int) (b : List Ca) (n : Nat) : ∀ (suf pre : List (List En)), pre.length + suf.length = n → n ≤ 8 → (∀ x ∈ suf, x.length = 8) →
    loopOf pr 17 0 ⟨[(2, .op 128 0), (4, .op 256 0), (15, .os (.t 833)), (16, I n), (17, I pre.length)], [(128, .box [.nilS, .nilS, .nilS]), (832, .arr true false (.int .i64) r), (833, .arr true true (.slice tyE) (clrT pre ++ suf)), (256, .box [.os (.t 832), .os (.t 833), .empS])]⟩ = some (.exit 0, ⟨[(2, .op 128 0), (4, .op 256 0), (15, .os (.t 833)), (16, I n), (17, I n)], [(128, .box [.nilS, .nilS, .nilS]), (832, .arr true false (.int .i64) r), (833, .arr true true (.slice tyE) (clrT (pre ++ suf))), (256, .box [.os (.t 832), .os (.t 833), .empS])]⟩)
  | [], pre, hl, h8, hx => by
    have hl : pre.length = n := by simpa using hl
    subst hl
    rw [loop_eq pr 17 0 _ Try.f17 fn_17 _ rfl _ ann_17 _ rfl]
    simp -implicitDefEqProofs only [List.append_nil, Int.lt_irrefl, List.length_nil, Nat.add_zero, go_sem, Nat.reduceAdd, Nat.reduceSub, Nat.reduceMul, Nat.reduceMod, Nat.reduceLT, Nat.reduceLeDiff, Nat.reduceEqDiff, Nat.reduceBEq, Nat.reduceDiv, Int.reduceLT, Int.reduceLE, Int.reduceToNat, Int.reduceNeg, Int.reduceEq, ↓reduceIte, reduceCtorEq, ↓reduceDIte]
  | x :: suf, pre, hl, h8, hx => by
    simp only [List.length_cons] at hl
    have hw : IntKind.i64.wrap ((pre.length : Int) + 1) = ((pre.length + 1 : Nat) : Int) := by rw [wrap_i] <;> omega
    have e1 : (pre ++ [x]).length = pre.length + 1 := by simp
    have ih := loop_ici0 r b n suf (pre ++ [x]) (by simp; omega) h8 (fun y hy => hx y (by simp [hy]))
    have c1 : clrT (pre ++ [x]) ++ suf = clrT pre ++ (x.map clrE) :: suf := by simp [clrT]
    rw [e1, c1, app_one] at ih
    have hx8 := hx x (by simp)
    have h := loop_icj0 r b n (clrT pre) suf x [] (by simpa using hx8)
    simp only [clrT_length, List.map_nil, List.nil_append, List.length_nil] at h
    have h : loopOf pr 17 1 ⟨[(2, .op 128 0), (4, .op 256 0), (6, .os (.n 833 pre.length 0)), (15, .os (.t 833)), (16, I n), (17, I pre.length), (22, I 8), (23, I 0)], [(128, .box [.nilS, .nilS, .nilS]), (832, .arr true false (.int .i64) r), (833, .arr true true (.slice tyE) (clrT pre ++ x :: suf)), (256, .box [.os (.t 832), .os (.t 833), .empS])]⟩ = _ := h
    rw [loop_eq pr 17 0 _ Try.f17 fn_17 _ rfl _ ann_17 _ rfl]
    have g3 : ((pre.length : Int) < (n : Int)) = True := tr (by omega)
    have g4 : ((pre.length : Int) < (((clrT pre ++ x :: suf).length : Nat) : Int)) = True := tr (by simp [clrT]; omega)
    have g5 : (pre.length < (clrT pre ++ x :: suf).length) = True := tr (by simp [clrT])
    have g6 : ∀ z : List En, (clrT pre ++ x :: suf).getD pre.length z = x := by intro z; rw [← clrT_length pre]; simp
    simp -implicitDefEqProofs only [g3, g4, g5, g6, hw, hx8, zero_le_cast, Int.toNat_natCast, Int.cast_ofNat_Int, h, go_sem, Nat.reduceAdd, Nat.reduceSub, Nat.reduceMul, Nat.reduceMod, Nat.reduceLT, Nat.reduceLeDiff, Nat.reduceEqDiff, Nat.reduceBEq, Nat.reduceDiv, Int.reduceLT, Int.reduceLE, Int.reduceToNat, Int.reduceNeg, Int.reduceEq, ↓reduceIte, reduceCtorEq, ↓reduceDIte]
    exact ih
theorem loop_icj1 (r : List Int) (b : List Ca) (n : Int) (tpre tsuf : List (List En)) : ∀ (suf pre : List En), pre.length + suf.length = 8 →
    loopOf pr 17 1 ⟨[(2, .op 128 0), (4, .op 256 0), (6, .os (.n 834 tpre.length 0)), (15, .os (.t 834)), (16, I n), (17, I tpre.length), (22, I 8), (23, I pre.length)], [(128, .box [.nilS, .nilS, .nilS]), (832, .arr true false (.int .i64) r), (833, .arr true false tyC b), (834, .arr true true (.slice tyE) (tpre ++ (pre.map clrE ++ suf) :: tsuf)), (256, .box [.os (.t 832), .os (.t 834), .os (.t 833)])]⟩ = some (.exit 2, ⟨[(2, .op 128 0), (4, .op 256 0), (6, .os (.n 834 tpre.length 0)), (15, .os (.t 834)), (16, I n), (17, I tpre.length), (22, I 8), (23, I 8)], [(128, .box [.nilS, .nilS, .nilS]), (832, .arr true false (.int .i64) r), (833, .arr true false tyC b), (834, .arr true true (.slice tyE) (tpre ++ ((pre ++ suf).map clrE) :: tsuf)), (256, .box [.os (.t 832), .os (.t 834), .os (.t 833)])]⟩)
  | [], pre, hl => by
    have hp : ((pre.length : Int) < 8) = False := fa (by simp at hl; omega)
    have he : (pre.length : Int) = 8 := by simp at hl; omega
    rw [loop_eq pr 17 1 _ Try.f17 fn_17 _ rfl _ ann_17 _ rfl]
    simp -implicitDefEqProofs only [hp, List.append_nil, he, Int.lt_irrefl, go_sem, Nat.reduceAdd, Nat.reduceSub, Nat.reduceMul, Nat.reduceMod, Nat.reduceLT, Nat.reduceLeDiff, Nat.reduceEqDiff, Nat.reduceBEq, Nat.reduceDiv, Int.reduceLT, Int.reduceLE, Int.reduceToNat, Int.reduceNeg, Int.reduceEq, ↓reduceIte, reduceCtorEq, ↓reduceDIte]
  | (f, w, u, d, ()) :: suf, pre, hl => by
    simp only [List.length_cons] at hl
    have hp : ((pre.length : Int) < 8) = True := tr (by omega)
    have hw : IntKind.i64.wrap ((pre.length : Int) + 1) = ((pre.length + 1 : Nat) : Int) := by rw [wrap_i] <;> omega
    have e1 : (pre ++ [(f, w, u, d, ())]).length = pre.length + 1 := by simp
    have ih := loop_icj1 r b n tpre tsuf suf (pre ++ [(f, w, u, d, ())]) (by simp; omega)
    rw [e1, map_app1, app_one] at ih
    have q1 : pre.length = (pre.map clrE).length := by simp
    rw [loop_eq pr 17 1 _ Try.f17 fn_17 _ rfl _ ann_17 _ rfl]
    have g1 : ∀ z : En, ((pre.map clrE) ++ (f, w, u, d, ()) :: suf).getD pre.length z = (f, w, u, d, ()) := by intro z; rw [q1]; simp
    have g2 : ∀ y : En, ((pre.map clrE) ++ (f, w, u, d, ()) :: suf).set pre.length y = (pre.map clrE) ++ y :: suf := by intro y; rw [q1]; simp
    have g3 : ((pre.length : Int) < ((((pre.map clrE) ++ (f, w, u, d, ()) :: suf).length : Nat) : Int)) = True := tr (by simp; omega)
    have g4 : (pre.length < ((pre.map clrE) ++ (f, w, u, d, ()) :: suf).length) = True := tr (by simp)
    simp -implicitDefEqProofs only [getD_app, set_app, lt_app, ltn_app, zero_le_cast, Int.toNat_natCast, hp, hw, g1, g2, g3, g4, go_sem, Nat.reduceAdd, Nat.reduceSub, Nat.reduceMul, Nat.reduceMod, Nat.reduceLT, Nat.reduceLeDiff, Nat.reduceEqDiff, Nat.reduceBEq, Nat.reduceDiv, Int.reduceLT, Int.reduceLE, Int.reduceToNat, Int.reduceNeg, Int.reduceEq, ↓reduceIte, reduceCtorEq, ↓reduceDIte]
    exact ih
theorem loop_ici1 (r : List Int) (b : List Ca) (n : Nat) : ∀ (suf pre : List (List En)), pre.length + suf.length = n → n ≤ 8 → (∀ x ∈ suf, x.length = 8) →
    loopOf pr 17 0 ⟨[(2, .op 128 0), (4, .op 256 0), (15, .os (.t 834)), (16, I n), (17, I pre.length)], [(128, .box [.nilS, .nilS, .nilS]), (832, .arr true false (.int .i64) r), (833, .arr true false tyC b), (834, .arr true true (.slice tyE) (clrT pre ++ suf)), (256, .box [.os (.t 832), .os (.t 834), .os (.t 833)])]⟩ = some (.exit 0, ⟨[(2, .op 128 0), (4, .op 256 0), (15, .os (.t 834)), (16, I n), (17, I n)], [(128, .box [.nilS, .nilS, .nilS]), (832, .arr true false (.int .i64) r), (833, .arr true false tyC b), (834, .arr true true (.slice tyE) (clrT (pre ++ suf))), (256, .box [.os (.t 832), .os (.t 834), .os (.t 833)])]⟩)
  | [], pre, hl, h8, hx => by
    have hl : pre.length = n := by simpa using hl
    subst hl
    rw [loop_eq pr 17 0 _ Try.f17 fn_17 _ rfl _ ann_17 _ rfl]
    simp -implicitDefEqProofs only [List.append_nil, Int.lt_irrefl, List.length_nil, Nat.add_zero, go_sem, Nat.reduceAdd, Nat.reduceSub, Nat.reduceMul, Nat.reduceMod, Nat.reduceLT, Nat.reduceLeDiff, Nat.reduceEqDiff, Nat.reduceBEq, Nat.reduceDiv, Int.reduceLT, Int.reduceLE, Int.reduceToNat, Int.reduceNeg, Int.reduceEq, ↓reduceIte, reduceCtorEq, ↓reduceDIte]
  | x :: suf, pre, hl, h8, hx => by
    simp only [List.length_cons] at hl
    have hw : IntKind.i64.wrap ((pre.length : Int) + 1) = ((pre.length + 1 : Nat) : Int) := by rw [wrap_i] <;> omega
    have e1 : (pre ++ [x]).length = pre.length + 1 := by simp
    have ih := loop_ici1 r b n suf (pre ++ [x]) (by simp; omega) h8 (fun y hy => hx y (by simp [hy]))
    have c1 : clrT (pre ++ [x]) ++ suf = clrT pre ++ (x.map clrE) :: suf := by simp [clrT]
    rw [e1, c1, app_one] at ih
    have hx8 := hx x (by simp)
    have h := loop_icj1 r b n (clrT pre) suf x [] (by simpa using hx8)
    simp only [clrT_length, List.map_nil, List.nil_append, List.length_nil] at h
    have h : loopOf pr 17 1 ⟨[(2, .op 128 0), (4, .op 256 0), (6, .os (.n 834 pre.length 0)), (15, .os (.t 834)), (16, I n), (17, I pre.length), (22, I 8), (23, I 0)], [(128, .box [.nilS, .nilS, .nilS]), (832, .arr true false (.int .i64) r), (833, .arr true false tyC b), (834, .arr true true (.slice tyE) (clrT pre ++ x :: suf)), (256, .box [.os (.t 832), .os (.t 834), .os (.t 833)])]⟩ = _ := h
    rw [loop_eq pr 17 0 _ Try.f17 fn_17 _ rfl _ ann_17 _ rfl]
    have g3 : ((pre.length : Int) < (n : Int)) = True := tr (by omega)
    have g4 : ((pre.length : Int) < (((clrT pre ++ x :: suf).length : Nat) : Int)) = True := tr (by simp [clrT]; omega)
    have g5 : (pre.length < (clrT pre ++ x :: suf).length) = True := tr (by simp [clrT])
    have g6 : ∀ z : List En, (clrT pre ++ x :: suf).getD pre.length z = x := by intro z; rw [← clrT_length pre]; simp
    simp -implicitDefEqProofs only [g3, g4, g5, g6, hw, hx8, zero_le_cast, Int.toNat_natCast, Int.cast_ofNat_Int, h, go_sem, Nat.reduceAdd, Nat.reduceSub, Nat.reduceMul, Nat.reduceMod, Nat.reduceLT, Nat.reduceLeDiff, Nat.reduceEqDiff, Nat.reduceBEq, Nat.reduceDiv, Int.reduceLT, Int.reduceLE, Int.reduceToNat, Int.reduceNeg, Int.reduceEq, ↓reduceIte, reduceCtorEq, ↓reduceDIte]
    exact ih
theorem call_ic (r : List Int) (t : List (List En)) (b : List Ca) (hr : r.length < 2000000) (ht : t.length < 2000000) (hx : ∀ x ∈ t, x.length < 2000000) (hb : b.length < 2000000) : if specS r t b = true then
      (t = [] ∧ b = [] ∧ callOf pr 17 [.agg [L r, LLE t, LC b]] [] = some (.tuple [.agg [.os (.t 832), .nilS, .empS], B true], [(832, .arr true false (.int .i64) r)])) ∨
      (t = [] ∧ callOf pr 17 [.agg [L r, LLE t, LC b]] [] = some (.tuple [.agg [.os (.t 832), .nilS, .os (.t 833)], B true], [(832, .arr true false (.int .i64) r), (833, .arr true false tyC b)])) ∨
      (b = [] ∧ callOf pr 17 [.agg [L r, LLE t, LC b]] [] = some (.tuple [.agg [.os (.t 832), .os (.t 833), .empS], B true], [(832, .arr true false (.int .i64) r), (833, .arr true true (.slice tyE) (clrT t))])) ∨
      (callOf pr 17 [.agg [L r, LLE t, LC b]] [] = some (.tuple [.agg [.os (.t 832), .os (.t 834), .os (.t 833)], B true], [(832, .arr true false (.int .i64) r), (833, .arr true false tyC b), (834, .arr true true (.slice tyE) (clrT t))]))
    else callOf pr 17 [.agg [L r, LLE t, LC b]] [] = some (.tuple [.agg [.nilS, .nilS, .nilS], B false], []) := by
  have h1 := call_vs r t b hr ht hx hb
  rw [← space_eq] at h1
  cases hs : specS r t b with
  | false =>
    rw [hs] at h1
    rw [if_neg (by simp)]
    rw [call_eq pr 17 _ _ Try.f17 fn_17 _ rfl _ ann_17 rfl]
    simp -implicitDefEqProofs only [h1, go_sem, Nat.reduceAdd, Nat.reduceSub, Nat.reduceMul, Nat.reduceMod, Nat.reduceLT, Nat.reduceLeDiff, Nat.reduceEqDiff, Nat.reduceBEq, Nat.reduceDiv, Int.reduceLT, Int.reduceLE, Int.reduceToNat, Int.reduceNeg, Int.reduceEq, ↓reduceIte, reduceCtorEq, ↓reduceDIte]
  | true =>
    rw [hs] at h1
    rw [if_pos rfl]
    obtain ⟨s1, s2, s3, s4, s5⟩ := spec_tab hs
    rcases clone4 r t b s1 hb (by omega) s3 with ⟨rfl, rfl, h2⟩ | ⟨rfl, h2⟩ | ⟨rfl, ht0, h2⟩ | ⟨ht0, h2⟩
    · refine .inl ⟨rfl, rfl, ?_⟩
      have h : loopOf pr 17 0 ⟨[(2, .op 128 0), (4, .op 256 0), (15, .nilS), (16, I 0), (17, I 0)], [(128, .box [.nilS, .nilS, .nilS]), (832, .arr true false (.int .i64) r), (256, .box [.os (.t 832), .nilS, .empS])]⟩ = some (.exit 0, ⟨[(2, .op 128 0), (4, .op 256 0), (15, .nilS), (16, I 0), (17, I 0)], [(128, .box [.nilS, .nilS, .nilS]), (832, .arr true false (.int .i64) r), (256, .box [.os (.t 832), .nilS, .empS])]⟩) := by
        rw [loop_eq pr 17 0 _ Try.f17 fn_17 _ rfl _ ann_17 _ rfl]
        simp -implicitDefEqProofs only [Int.lt_irrefl, go_sem, Nat.reduceAdd, Nat.reduceSub, Nat.reduceMul, Nat.reduceMod, Nat.reduceLT, Nat.reduceLeDiff, Nat.reduceEqDiff, Nat.reduceBEq, Nat.reduceDiv, Int.reduceLT, Int.reduceLE, Int.reduceToNat, Int.reduceNeg, Int.reduceEq, ↓reduceIte, reduceCtorEq, ↓reduceDIte]
      rw [call_eq pr 17 _ _ Try.f17 fn_17 _ rfl _ ann_17 rfl]
      simp -implicitDefEqProofs only [h1, h2, h, go_sem, Nat.reduceAdd, Nat.reduceSub, Nat.reduceMul, Nat.reduceMod, Nat.reduceLT, Nat.reduceLeDiff, Nat.reduceEqDiff, Nat.reduceBEq, Nat.reduceDiv, Int.reduceLT, Int.reduceLE, Int.reduceToNat, Int.reduceNeg, Int.reduceEq, ↓reduceIte, reduceCtorEq, ↓reduceDIte]
    · refine .inr (.inl ⟨rfl, ?_⟩)
      have h : loopOf pr 17 0 ⟨[(2, .op 128 0), (4, .op 256 0), (15, .nilS), (16, I 0), (17, I 0)], [(128, .box [.nilS, .nilS, .nilS]), (832, .arr true false (.int .i64) r), (833, .arr true false tyC b), (256, .box [.os (.t 832), .nilS, .os (.t 833)])]⟩ = some (.exit 0, ⟨[(2, .op 128 0), (4, .op 256 0), (15, .nilS), (16, I 0), (17, I 0)], [(128, .box [.nilS, .nilS, .nilS]), (832, .arr true false (.int .i64) r), (833, .arr true false tyC b), (256, .box [.os (.t 832), .nilS, .os (.t 833)])]⟩) := by
        rw [loop_eq pr 17 0 _ Try.f17 fn_17 _ rfl _ ann_17 _ rfl]
        simp -implicitDefEqProofs only [Int.lt_irrefl, go_sem, Nat.reduceAdd, Nat.reduceSub, Nat.reduceMul, Nat.reduceMod, Nat.reduceLT, Nat.reduceLeDiff, Nat.reduceEqDiff, Nat.reduceBEq, Nat.reduceDiv, Int.reduceLT, Int.reduceLE, Int.reduceToNat, Int.reduceNeg, Int.reduceEq, ↓reduceIte, reduceCtorEq, ↓reduceDIte]
      rw [call_eq pr 17 _ _ Try.f17 fn_17 _ rfl _ ann_17 rfl]
      simp -implicitDefEqProofs only [h1, h2, h, go_sem, Nat.reduceAdd, Nat.reduceSub, Nat.reduceMul, Nat.reduceMod, Nat.reduceLT, Nat.reduceLeDiff, Nat.reduceEqDiff, Nat.reduceBEq, Nat.reduceDiv, Int.reduceLT, Int.reduceLE, Int.reduceToNat, Int.reduceNeg, Int.reduceEq, ↓reduceIte, reduceCtorEq, ↓reduceDIte]
    · refine .inr (.inr (.inl ⟨rfl, ?_⟩))
      have h := loop_ici0 r [] t.length t [] (by simp) s2 s3
      simp only [clrT, List.map_nil, List.nil_append, List.length_nil] at h
      have h : loopOf pr 17 0 ⟨[(2, .op 128 0), (4, .op 256 0), (15, .os (.t 833)), (16, I t.length), (17, I 0)], [(128, .box [.nilS, .nilS, .nilS]), (832, .arr true false (.int .i64) r), (833, .arr true true (.slice tyE) t), (256, .box [.os (.t 832), .os (.t 833), .empS])]⟩ = _ := h
      rw [call_eq pr 17 _ _ Try.f17 fn_17 _ rfl _ ann_17 rfl]
      simp -implicitDefEqProofs only [h1, h2, h, go_sem, Nat.reduceAdd, Nat.reduceSub, Nat.reduceMul, Nat.reduceMod, Nat.reduceLT, Nat.reduceLeDiff, Nat.reduceEqDiff, Nat.reduceBEq, Nat.reduceDiv, Int.reduceLT, Int.reduceLE, Int.reduceToNat, Int.reduceNeg, Int.reduceEq, ↓reduceIte, reduceCtorEq, ↓reduceDIte]
      rfl
    · refine .inr (.inr (.inr ?_))
      have h := loop_ici1 r b t.length t [] (by simp) s2 s3
      simp only [clrT, List.map_nil, List.nil_append, List.length_nil] at h
      have h : loopOf pr 17 0 ⟨[(2, .op 128 0), (4, .op 256 0), (15, .os (.t 834)), (16, I t.length), (17, I 0)], [(128, .box [.nilS, .nilS, .nilS]), (832, .arr true false (.int .i64) r), (833, .arr true false tyC b), (834, .arr true true (.slice tyE) t), (256, .box [.os (.t 832), .os (.t 834), .os (.t 833)])]⟩ = _ := h
      rw [call_eq pr 17 _ _ Try.f17 fn_17 _ rfl _ ann_17 rfl]
      simp -implicitDefEqProofs only [h1, h2, h, go_sem, Nat.reduceAdd, Nat.reduceSub, Nat.reduceMul, Nat.reduceMod, Nat.reduceLT, Nat.reduceLeDiff, Nat.reduceEqDiff, Nat.reduceBEq, Nat.reduceDiv, Int.reduceLT, Int.reduceLE, Int.reduceToNat, Int.reduceNeg, Int.reduceEq, ↓reduceIte, reduceCtorEq, ↓reduceDIte]
      rfl
theorem end_pos (m : Int) (r : List Int) (t : List (List En)) (b : List Ca) (h : 0 ≤ m) : ¬ endS m r t b < 0 := by simp only [endS]; omega
theorem Bd_ints {n : Nat} {r : List Int} (h : r.length ≤ n) : Bd n (.slice (.int .i64)) r := ⟨h, fun _ _ => trivial⟩
theorem Bd_tabs {n : Nat} {t : List (List En)} (h : t.length ≤ n) (hx : ∀ x ∈ t, x.length ≤ n) : Bd n (.slice (.slice tyE)) t := ⟨h, fun y hy => ⟨hx y hy, fun _ _ => Bd.scalar _ rfl _⟩⟩
theorem Bd_buf {n : Nat} {b : List Ca} (h : b.length ≤ n) : Bd n (.slice tyC) b := ⟨h, fun _ _ => Bd.scalar _ rfl _⟩
theorem bd_small {r : List Int} {t : List (List En)} {b : List Ca} (z1 : r.length ≤ 100) (z2 : t.length ≤ 100) (z3 : ∀ x ∈ t, x.length ≤ 100) (z4 : b.length ≤ 100) : Bd wide (.slice (.int .i64)) r ∧ Bd wide (.slice (.slice tyE)) t ∧ Bd wide (.slice tyC) b :=
  ⟨Bd.mono (by decide) _ _ (Bd_ints z1), Bd.mono (by decide) _ _ (Bd_tabs z2 z3), Bd.mono (by decide) _ _ (Bd_buf z4)⟩
theorem end_small {r : List Int} {t : List (List En)} {b : List Ca} (z1 : r.length ≤ 100) (z2 : t.length ≤ 100) (z3 : ∀ x ∈ t, x.length ≤ 100) (z4 : b.length ≤ 100) : endS 1 r t b ≤ 900000000000000000 := by
  have c1 := cnt_le (n := 100) (.slice (.int .i64)) r (Bd_ints z1)
  have c2 := cnt_le (n := 100) (.slice (.slice tyE)) t (Bd_tabs z2 z3)
  have c3 := cnt_le (n := 100) (.slice tyC) b (Bd_buf z4)
  simp only [top] at c1 c2 c3
  simp only [endS]
  omega
theorem first_small {r : List Int} {t : List (List En)} {b : List Ca} (hs : Bd small (.agg (.cons (.slice (.int .i64)) (.cons (.slice (.slice tyE)) (.cons (.slice tyC) .nil)))) (r, t, b, ())) : (1 : Int) + ((cnt (.slice (.int .i64)) r + cnt (.slice (.slice tyE)) t + cnt (.slice tyC) b : Nat) : Int) ≤ wide := by
  have c1 := cnt_le (n := small) (.slice (.int .i64)) r hs.1
  have c2 := cnt_le (n := small) (.slice (.slice tyE)) t hs.2.1
  have c3 := cnt_le (n := small) (.slice tyC) b hs.2.2.1
  simp only [top, small] at c1 c2 c3
  simp only [wide]
  omega
theorem mB_len (m : Int) (r : List Int) (t : List (List En)) (b : List Ca) : (mB m r t b).length = b.length := markS_length _ _ _
theorem clrT_sizes {r : List Int} {t : List (List En)} {b : List Ca} (hs : specS r t b = true) : r.length ≤ 100 ∧ (clrT t).length ≤ 100 ∧ (∀ x ∈ clrT t, x.length ≤ 100) ∧ b.length ≤ 100 := by
  obtain ⟨s1, s2, s3, s4, s5⟩ := spec_tab hs
  exact ⟨by omega, by rw [clrT_length]; omega, fun x hx => by rw [clrT_rows s3 x hx]; omega, by omega⟩
theorem clr_nil {t : List (List En)} (h : t = []) : clrT t = [] := by subst h; rfl
end Go.Proofs.Yticpldfkjldepaa.PI
