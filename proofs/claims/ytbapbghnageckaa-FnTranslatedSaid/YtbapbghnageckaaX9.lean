/- The law of FnTranslated. -/
import Derived.Test.YtbapbghnageckaaX8
import Derived.Test.YtbapbghnageckaaU9
namespace Go.Proofs.Ytbapbghnageckaa.PI
open Go Go.Q
set_option maxRecDepth 100000
set_option maxHeartbeats 4000000
set_option linter.unusedSimpArgs false
set_option linter.unusedVariables false
attribute [local go_sem] Nat.reduceAdd Nat.reduceSub Nat.reduceMul Nat.reduceMod Nat.reduceLT Nat.reduceLeDiff Nat.reduceEqDiff Nat.reduceBEq Nat.reduceDiv Int.reduceLT Int.reduceLE Int.reduceToNat Int.reduceNeg Int.reduceEq reduceCtorEq
attribute [local go_sem ↓] reduceIte reduceDIte
theorem okBy_of {a : List Int} (hw : Ty.WF (.slice (.int .u8)) a) (hl : ¬ 48 < (a.length : Int)) : okBy a := by
  refine ⟨by omega, fun x hx => ?_⟩
  have h1 := hw.2 x hx
  have h2 : IntKind.u8.min ≤ x ∧ x ≤ IntKind.u8.max := h1
  have h3 : IntKind.u8.min = 0 ∧ IntKind.u8.max = 255 := by decide
  omega
abbrev TS (r : List Int) (t : List (List En)) (b : List Ca) (t' : List (List En)) (b' : List Ca) (o f : Int) (kept : Bool) (j : Int) : Slots := [(5, .rp [L r, LLE t, LC b]), (6, .op 384 0), (7, .op 448 0), (9, .rp [L r, LLE t', LC b']), (10, I o), (11, I f), (13, B kept), (14, I j)]
abbrev TH (k p ef : Int) (ew eu ed : Bool) : Heap := [(384, .box [I k, I p]), (448, .box [I ef, B ew, B eu, B ed])]
theorem loop_tr (r : List Int) (t t' : List (List En)) (b' : List Ca) (o f k p ef : Int) (ew eu ed : Bool) : ∀ (suf pre : List Ca) (kept : Bool), pre.length + suf.length < 1000 →
    loopOf pr 3 0 ⟨TS r t (pre ++ suf) t' b' o f kept pre.length, TH k p ef ew eu ed⟩ = some (.exit 0, ⟨TS r t (pre ++ suf) t' b' o f (kept || suf.any (pageAt p)) ((pre.length + suf.length : Nat) : Int), TH k p ef ew eu ed⟩)
  | [], pre, kept, hb => by
    rw [loop_eq pr 3 0 _ Try.f3 fn_3 _ rfl _ ann_3 _ rfl]
    simp -implicitDefEqProofs only [Int.lt_irrefl, List.append_nil, Nat.add_zero, List.any_nil, go_sem]
  | (q, cf, cw, ()) :: suf, pre, kept, hb => by
    simp only [List.length_cons] at hb
    have hw : IntKind.i64.wrap ((pre.length : Int) + 1) = ((pre.length + 1 : Nat) : Int) := by rw [wrap_i] <;> omega
    have e1 : (pre ++ [(q, cf, cw, ())]).length = pre.length + 1 := by simp
    have e2 : pre.length + 1 + suf.length = pre.length + ((q, cf, cw, ()) :: suf).length := by simp; omega
    have ih := loop_tr r t t' b' o f k p ef ew eu ed suf (pre ++ [(q, cf, cw, ())]) (kept || decide (q = p)) (by simp; omega)
    have e3 : (kept || decide (q = p) || suf.any (pageAt p)) = (kept || ((q, cf, cw, ()) :: suf).any (pageAt p)) := by
      rw [List.any_cons, Bool.or_assoc]; rfl
    rw [app_one, e1, e2, e3] at ih
    rw [loop_eq pr 3 0 _ Try.f3 fn_3 _ rfl _ ann_3 _ rfl]
    cases kept with
    | true =>
      simp -implicitDefEqProofs only [getD_app, lt_app, ltn_app, zero_le_cast, Int.toNat_natCast, hw, go_sem]
      exact ih
    | false =>
      by_cases hq : q = p
      · subst hq
        simp only [decide_true] at ih
        simp -implicitDefEqProofs only [getD_app, lt_app, ltn_app, zero_le_cast, Int.toNat_natCast, hw, go_sem]
        exact ih
      · simp only [decide_eq_false hq] at ih
        simp -implicitDefEqProofs only [getD_app, lt_app, ltn_app, zero_le_cast, Int.toNat_natCast, hw, fa hq, go_sem]
        exact ih
def UseV (r : List Int) (t T : List (List En)) (b B' : List Ca) (k p o f : Int) : Prop := (T = [] ∧ B' = [] ∧ callOf pr 8 [.agg [L r, LLE t, LC b], .agg [I k, I p]] [] = some (.tuple [.agg [.os (.t 1408), .nilS, .empS], I o, I f, B true], [(1408, .arr true false (.int .i64) r)])) ∨ (T = [] ∧ callOf pr 8 [.agg [L r, LLE t, LC b], .agg [I k, I p]] [] = some (.tuple [.agg [.os (.t 1408), .nilS, .os (.t 1409)], I o, I f, B true], [(1408, .arr true false (.int .i64) r), (1409, .arr true false tyC B')])) ∨ (B' = [] ∧ callOf pr 8 [.agg [L r, LLE t, LC b], .agg [I k, I p]] [] = some (.tuple [.agg [.os (.t 1408), .os (.t 1409), .empS], I o, I f, B true], [(1408, .arr true false (.int .i64) r), (1409, .arr true true (.slice tyE) T)])) ∨ (callOf pr 8 [.agg [L r, LLE t, LC b], .agg [I k, I p]] [] = some (.tuple [.agg [.os (.t 1408), .os (.t 1409), .os (.t 1600)], I o, I f, B true], [(1408, .arr true false (.int .i64) r), (1409, .arr true true (.slice tyE) T), (1600, .arr true false tyC B')])) ∨ (callOf pr 8 [.agg [L r, LLE t, LC b], .agg [I k, I p]] [] = some (.tuple [.agg [.os (.t 1408), .os (.t 1410), .os (.t 1409)], I o, I f, B true], [(1408, .arr true false (.int .i64) r), (1409, .arr true false tyC B'), (1410, .arr true true (.slice tyE) T)]))
theorem use_v {r : List Int} {t : List (List En)} {b : List Ca} (k : Int) {p : Int} (hV : Vs r t b) (ha : addrB p = true) (hk : kindB k = true) : UseV r t (useR r t b k p).2.2.1 b (useR r t b k p).2.2.2 k p (useR r t b k p).1 (useR r t b k p).2.1 := by
  have h := call_iu r t b k p (by have := hV.root; omega) (by have := hV.few; omega) (fun x hx => by rw [hV.rows x hx]; omega) (by have := hV.buf; omega)
  rw [if_pos (by simp only [useC, accB, vs_iff.2 hV, hk, ha, Bool.and_self])] at h
  exact h
theorem tr_a (a c : List Int) (k p : Int) (r : List Int) (t T : List (List En)) (b B' : List Ca) (o f ef : Int) (ew eu ed : Bool) (h1 : callOf pr 4 [BY a, BY c] [] = some (B false, [])) (h2 : callOf pr 5 [BY a] [] = some (.agg [.os (.t 257), .os (.t 258), .os (.t 259)], [(257, .arr true false (.int .i64) r), (258, .arr true true (.slice tyE) t), (259, .arr true false tyC b)])) (h3 : callOf pr 6 [BY c, I 0, I 2] [] = some (I k, [])) (h4 : callOf pr 6 [BY c, I 1, I 26] [] = some (I p, [])) (h7 : callOf pr 9 [.agg [L r, LLE t, LC b]] [] = some (B true, [])) (h8 : callOf pr 9 [.agg [L r, LLE T, LC B']] [] = some (B true, [])) (h9 : callOf pr 10 [.agg [L r, LLE T, LC B']] [] = some (B true, [])) (h5 : callOf pr 7 [.agg [L r, LLE t, LC b], I p] [] = some (.tuple [agE (0, false, false, false, ()), B false], [])) (ho : o = 2) (hf : f = -1) (hU : UseV r t T b B' k p o f) : callOf pr 3 [BY a, BY c] [] = some (B true, []) := by
  subst ho hf
  rw [call_eq pr 3 _ _ Try.f3 fn_3 _ rfl _ ann_3 rfl]
  rcases hU with ⟨rfl, rfl, h6⟩ | ⟨rfl, h6⟩ | ⟨rfl, h6⟩ | h6 | h6
  · simp -implicitDefEqProofs only [h1, h2, h3, h4, h5, h6, h7, h8, h9, go_sem]
  · simp -implicitDefEqProofs only [h1, h2, h3, h4, h5, h6, h7, h8, h9, go_sem]
  · simp -implicitDefEqProofs only [h1, h2, h3, h4, h5, h6, h7, h8, h9, go_sem]
  · simp -implicitDefEqProofs only [h1, h2, h3, h4, h5, h6, h7, h8, h9, go_sem]
  · simp -implicitDefEqProofs only [h1, h2, h3, h4, h5, h6, h7, h8, h9, go_sem]
theorem tr_b (a c : List Int) (k p : Int) (r : List Int) (t T : List (List En)) (b B' : List Ca) (o f ef : Int) (ew eu ed : Bool) (h1 : callOf pr 4 [BY a, BY c] [] = some (B false, [])) (h2 : callOf pr 5 [BY a] [] = some (.agg [.os (.t 257), .os (.t 258), .os (.t 259)], [(257, .arr true false (.int .i64) r), (258, .arr true true (.slice tyE) t), (259, .arr true false tyC b)])) (h3 : callOf pr 6 [BY c, I 0, I 2] [] = some (I k, [])) (h4 : callOf pr 6 [BY c, I 1, I 26] [] = some (I p, [])) (h7 : callOf pr 9 [.agg [L r, LLE t, LC b]] [] = some (B true, [])) (h8 : callOf pr 9 [.agg [L r, LLE T, LC B']] [] = some (B true, [])) (h9 : callOf pr 10 [.agg [L r, LLE T, LC B']] [] = some (B true, [])) (hk : k = 1) (h5 : callOf pr 7 [.agg [L r, LLE t, LC b], I p] [] = some (.tuple [agE (ef, false, eu, ed, ()), B true], [])) (ho : o = 3) (hf : f = -1) (hU : UseV r t T b B' k p o f) : callOf pr 3 [BY a, BY c] [] = some (B true, []) := by
  subst ho hf hk
  rw [call_eq pr 3 _ _ Try.f3 fn_3 _ rfl _ ann_3 rfl]
  rcases hU with ⟨rfl, rfl, h6⟩ | ⟨rfl, h6⟩ | ⟨rfl, h6⟩ | h6 | h6
  · simp -implicitDefEqProofs only [h1, h2, h3, h4, h5, h6, h7, h8, h9, go_sem]
  · simp -implicitDefEqProofs only [h1, h2, h3, h4, h5, h6, h7, h8, h9, go_sem]
  · simp -implicitDefEqProofs only [h1, h2, h3, h4, h5, h6, h7, h8, h9, go_sem]
  · simp -implicitDefEqProofs only [h1, h2, h3, h4, h5, h6, h7, h8, h9, go_sem]
  · simp -implicitDefEqProofs only [h1, h2, h3, h4, h5, h6, h7, h8, h9, go_sem]
theorem tr_c2 (a c : List Int) (k p : Int) (r : List Int) (t T : List (List En)) (b B' : List Ca) (o f ef : Int) (ew eu ed : Bool) (h1 : callOf pr 4 [BY a, BY c] [] = some (B false, [])) (h2 : callOf pr 5 [BY a] [] = some (.agg [.os (.t 257), .os (.t 258), .os (.t 259)], [(257, .arr true false (.int .i64) r), (258, .arr true true (.slice tyE) t), (259, .arr true false tyC b)])) (h3 : callOf pr 6 [BY c, I 0, I 2] [] = some (I k, [])) (h4 : callOf pr 6 [BY c, I 1, I 26] [] = some (I p, [])) (h7 : callOf pr 9 [.agg [L r, LLE t, LC b]] [] = some (B true, [])) (h8 : callOf pr 9 [.agg [L r, LLE T, LC B']] [] = some (B true, [])) (h9 : callOf pr 10 [.agg [L r, LLE T, LC B']] [] = some (B true, [])) (hk : (decide (k = 1) && !ew) = false) (h5 : callOf pr 7 [.agg [L r, LLE t, LC b], I p] [] = some (.tuple [agE (ef, ew, eu, ed, ()), B true], [])) (ho : o = if b.any (pageAt p) = true then 0 else 1) (hf : f = ef) (h10 : callOf pr 7 [.agg [L r, LLE T, LC B'], I p] [] = some (.tuple [agE (ef, ew, true, ed || decide (k = 1), ()), B true], [])) (cf : Int) (cw : Bool) (l : List Ca) (hB : B' = (p, cf, cw, ()) :: l) (hbl : b.length < 100) (hU : T = [] ∧ callOf pr 8 [.agg [L r, LLE t, LC b], .agg [I k, I p]] [] = some (.tuple [.agg [.os (.t 1408), .nilS, .os (.t 1409)], I o, I f, B true], [(1408, .arr true false (.int .i64) r), (1409, .arr true false tyC B')])) : callOf pr 3 [BY a, BY c] [] = some (B true, []) := by
  obtain ⟨rfl, h6⟩ := hU
  subst hf hB
  have hl := fun T' => loop_tr r t T' ((p, cf, cw, ()) :: l) o f k p f ew eu ed b [] false (by simp; omega)
  simp only [List.nil_append, List.length_nil, Nat.zero_add, Int.natCast_zero, Bool.false_or] at hl
  have hpos : (((l.length + 1 : Nat) : Int) > 0) = True := tr (by omega)
  have hpos2 : (0 < l.length + 1) = True := tr (by omega)
  have hpos3 : ((0 : Int) < ((l.length + 1 : Nat) : Int)) = True := tr (by omega)
  cases hK : b.any (pageAt p) with
  | true =>
    rw [hK, if_pos rfl] at ho
    subst ho
    simp only [hK] at hl
    by_cases hk1 : k = 1
    · subst hk1
      cases ew with
      | false => simp at hk
      | true =>
        rw [call_eq pr 3 _ _ Try.f3 fn_3 _ rfl _ ann_3 rfl]
        cases ed <;> simp -implicitDefEqProofs only [h1, h2, h3, h4, h5, h6, h7, h8, h9, h10, hl, hpos, hpos2, hpos3, List.length_cons, List.getD_cons_zero, Int.le_refl, ge_iff_le, gt_iff_lt, eq_self_iff_true, beq_self_eq_true, BEq.rfl, go_sem] <;> rfl
    · have hk2 : decide (k = 1) = false := by simp [hk1]
      rw [call_eq pr 3 _ _ Try.f3 fn_3 _ rfl _ ann_3 rfl]
      cases ed <;> simp -implicitDefEqProofs only [h1, h2, h3, h4, h5, h6, h7, h8, h9, h10, hl, hpos, hpos2, hpos3, List.length_cons, List.getD_cons_zero, Int.le_refl, ge_iff_le, gt_iff_lt, eq_self_iff_true, beq_self_eq_true, BEq.rfl, fa hk1, hk2, go_sem] <;> rfl
  | false =>
    rw [hK, if_neg (by simp)] at ho
    subst ho
    simp only [hK] at hl
    by_cases hk1 : k = 1
    · subst hk1
      cases ew with
      | false => simp at hk
      | true =>
        rw [call_eq pr 3 _ _ Try.f3 fn_3 _ rfl _ ann_3 rfl]
        cases ed <;> simp -implicitDefEqProofs only [h1, h2, h3, h4, h5, h6, h7, h8, h9, h10, hl, hpos, hpos2, hpos3, List.length_cons, List.getD_cons_zero, Int.le_refl, ge_iff_le, gt_iff_lt, eq_self_iff_true, beq_self_eq_true, BEq.rfl, go_sem] <;> rfl
    · have hk2 : decide (k = 1) = false := by simp [hk1]
      rw [call_eq pr 3 _ _ Try.f3 fn_3 _ rfl _ ann_3 rfl]
      cases ed <;> simp -implicitDefEqProofs only [h1, h2, h3, h4, h5, h6, h7, h8, h9, h10, hl, hpos, hpos2, hpos3, List.length_cons, List.getD_cons_zero, Int.le_refl, ge_iff_le, gt_iff_lt, eq_self_iff_true, beq_self_eq_true, BEq.rfl, fa hk1, hk2, go_sem] <;> rfl
theorem tr_c4 (a c : List Int) (k p : Int) (r : List Int) (t T : List (List En)) (b B' : List Ca) (o f ef : Int) (ew eu ed : Bool) (h1 : callOf pr 4 [BY a, BY c] [] = some (B false, [])) (h2 : callOf pr 5 [BY a] [] = some (.agg [.os (.t 257), .os (.t 258), .os (.t 259)], [(257, .arr true false (.int .i64) r), (258, .arr true true (.slice tyE) t), (259, .arr true false tyC b)])) (h3 : callOf pr 6 [BY c, I 0, I 2] [] = some (I k, [])) (h4 : callOf pr 6 [BY c, I 1, I 26] [] = some (I p, [])) (h7 : callOf pr 9 [.agg [L r, LLE t, LC b]] [] = some (B true, [])) (h8 : callOf pr 9 [.agg [L r, LLE T, LC B']] [] = some (B true, [])) (h9 : callOf pr 10 [.agg [L r, LLE T, LC B']] [] = some (B true, [])) (hk : (decide (k = 1) && !ew) = false) (h5 : callOf pr 7 [.agg [L r, LLE t, LC b], I p] [] = some (.tuple [agE (ef, ew, eu, ed, ()), B true], [])) (ho : o = if b.any (pageAt p) = true then 0 else 1) (hf : f = ef) (h10 : callOf pr 7 [.agg [L r, LLE T, LC B'], I p] [] = some (.tuple [agE (ef, ew, true, ed || decide (k = 1), ()), B true], [])) (cf : Int) (cw : Bool) (l : List Ca) (hB : B' = (p, cf, cw, ()) :: l) (hbl : b.length < 100) (hU : callOf pr 8 [.agg [L r, LLE t, LC b], .agg [I k, I p]] [] = some (.tuple [.agg [.os (.t 1408), .os (.t 1409), .os (.t 1600)], I o, I f, B true], [(1408, .arr true false (.int .i64) r), (1409, .arr true true (.slice tyE) T), (1600, .arr true false tyC B')])) : callOf pr 3 [BY a, BY c] [] = some (B true, []) := by
  have h6 := hU
  subst hf hB
  have hl := fun T' => loop_tr r t T' ((p, cf, cw, ()) :: l) o f k p f ew eu ed b [] false (by simp; omega)
  simp only [List.nil_append, List.length_nil, Nat.zero_add, Int.natCast_zero, Bool.false_or] at hl
  have hpos : (((l.length + 1 : Nat) : Int) > 0) = True := tr (by omega)
  have hpos2 : (0 < l.length + 1) = True := tr (by omega)
  have hpos3 : ((0 : Int) < ((l.length + 1 : Nat) : Int)) = True := tr (by omega)
  cases hK : b.any (pageAt p) with
  | true =>
    rw [hK, if_pos rfl] at ho
    subst ho
    simp only [hK] at hl
    by_cases hk1 : k = 1
    · subst hk1
      cases ew with
      | false => simp at hk
      | true =>
        rw [call_eq pr 3 _ _ Try.f3 fn_3 _ rfl _ ann_3 rfl]
        cases ed <;> simp -implicitDefEqProofs only [h1, h2, h3, h4, h5, h6, h7, h8, h9, h10, hl, hpos, hpos2, hpos3, List.length_cons, List.getD_cons_zero, Int.le_refl, ge_iff_le, gt_iff_lt, eq_self_iff_true, beq_self_eq_true, BEq.rfl, go_sem] <;> rfl
    · have hk2 : decide (k = 1) = false := by simp [hk1]
      rw [call_eq pr 3 _ _ Try.f3 fn_3 _ rfl _ ann_3 rfl]
      cases ed <;> simp -implicitDefEqProofs only [h1, h2, h3, h4, h5, h6, h7, h8, h9, h10, hl, hpos, hpos2, hpos3, List.length_cons, List.getD_cons_zero, Int.le_refl, ge_iff_le, gt_iff_lt, eq_self_iff_true, beq_self_eq_true, BEq.rfl, fa hk1, hk2, go_sem] <;> rfl
  | false =>
    rw [hK, if_neg (by simp)] at ho
    subst ho
    simp only [hK] at hl
    by_cases hk1 : k = 1
    · subst hk1
      cases ew with
      | false => simp at hk
      | true =>
        rw [call_eq pr 3 _ _ Try.f3 fn_3 _ rfl _ ann_3 rfl]
        cases ed <;> simp -implicitDefEqProofs only [h1, h2, h3, h4, h5, h6, h7, h8, h9, h10, hl, hpos, hpos2, hpos3, List.length_cons, List.getD_cons_zero, Int.le_refl, ge_iff_le, gt_iff_lt, eq_self_iff_true, beq_self_eq_true, BEq.rfl, go_sem] <;> rfl
    · have hk2 : decide (k = 1) = false := by simp [hk1]
      rw [call_eq pr 3 _ _ Try.f3 fn_3 _ rfl _ ann_3 rfl]
      cases ed <;> simp -implicitDefEqProofs only [h1, h2, h3, h4, h5, h6, h7, h8, h9, h10, hl, hpos, hpos2, hpos3, List.length_cons, List.getD_cons_zero, Int.le_refl, ge_iff_le, gt_iff_lt, eq_self_iff_true, beq_self_eq_true, BEq.rfl, fa hk1, hk2, go_sem] <;> rfl
theorem tr_c5 (a c : List Int) (k p : Int) (r : List Int) (t T : List (List En)) (b B' : List Ca) (o f ef : Int) (ew eu ed : Bool) (h1 : callOf pr 4 [BY a, BY c] [] = some (B false, [])) (h2 : callOf pr 5 [BY a] [] = some (.agg [.os (.t 257), .os (.t 258), .os (.t 259)], [(257, .arr true false (.int .i64) r), (258, .arr true true (.slice tyE) t), (259, .arr true false tyC b)])) (h3 : callOf pr 6 [BY c, I 0, I 2] [] = some (I k, [])) (h4 : callOf pr 6 [BY c, I 1, I 26] [] = some (I p, [])) (h7 : callOf pr 9 [.agg [L r, LLE t, LC b]] [] = some (B true, [])) (h8 : callOf pr 9 [.agg [L r, LLE T, LC B']] [] = some (B true, [])) (h9 : callOf pr 10 [.agg [L r, LLE T, LC B']] [] = some (B true, [])) (hk : (decide (k = 1) && !ew) = false) (h5 : callOf pr 7 [.agg [L r, LLE t, LC b], I p] [] = some (.tuple [agE (ef, ew, eu, ed, ()), B true], [])) (ho : o = if b.any (pageAt p) = true then 0 else 1) (hf : f = ef) (h10 : callOf pr 7 [.agg [L r, LLE T, LC B'], I p] [] = some (.tuple [agE (ef, ew, true, ed || decide (k = 1), ()), B true], [])) (cf : Int) (cw : Bool) (l : List Ca) (hB : B' = (p, cf, cw, ()) :: l) (hbl : b.length < 100) (hU : callOf pr 8 [.agg [L r, LLE t, LC b], .agg [I k, I p]] [] = some (.tuple [.agg [.os (.t 1408), .os (.t 1410), .os (.t 1409)], I o, I f, B true], [(1408, .arr true false (.int .i64) r), (1409, .arr true false tyC B'), (1410, .arr true true (.slice tyE) T)])) : callOf pr 3 [BY a, BY c] [] = some (B true, []) := by
  have h6 := hU
  subst hf hB
  have hl := fun T' => loop_tr r t T' ((p, cf, cw, ()) :: l) o f k p f ew eu ed b [] false (by simp; omega)
  simp only [List.nil_append, List.length_nil, Nat.zero_add, Int.natCast_zero, Bool.false_or] at hl
  have hpos : (((l.length + 1 : Nat) : Int) > 0) = True := tr (by omega)
  have hpos2 : (0 < l.length + 1) = True := tr (by omega)
  have hpos3 : ((0 : Int) < ((l.length + 1 : Nat) : Int)) = True := tr (by omega)
  cases hK : b.any (pageAt p) with
  | true =>
    rw [hK, if_pos rfl] at ho
    subst ho
    simp only [hK] at hl
    by_cases hk1 : k = 1
    · subst hk1
      cases ew with
      | false => simp at hk
      | true =>
        rw [call_eq pr 3 _ _ Try.f3 fn_3 _ rfl _ ann_3 rfl]
        cases ed <;> simp -implicitDefEqProofs only [h1, h2, h3, h4, h5, h6, h7, h8, h9, h10, hl, hpos, hpos2, hpos3, List.length_cons, List.getD_cons_zero, Int.le_refl, ge_iff_le, gt_iff_lt, eq_self_iff_true, beq_self_eq_true, BEq.rfl, go_sem] <;> rfl
    · have hk2 : decide (k = 1) = false := by simp [hk1]
      rw [call_eq pr 3 _ _ Try.f3 fn_3 _ rfl _ ann_3 rfl]
      cases ed <;> simp -implicitDefEqProofs only [h1, h2, h3, h4, h5, h6, h7, h8, h9, h10, hl, hpos, hpos2, hpos3, List.length_cons, List.getD_cons_zero, Int.le_refl, ge_iff_le, gt_iff_lt, eq_self_iff_true, beq_self_eq_true, BEq.rfl, fa hk1, hk2, go_sem] <;> rfl
  | false =>
    rw [hK, if_neg (by simp)] at ho
    subst ho
    simp only [hK] at hl
    by_cases hk1 : k = 1
    · subst hk1
      cases ew with
      | false => simp at hk
      | true =>
        rw [call_eq pr 3 _ _ Try.f3 fn_3 _ rfl _ ann_3 rfl]
        cases ed <;> simp -implicitDefEqProofs only [h1, h2, h3, h4, h5, h6, h7, h8, h9, h10, hl, hpos, hpos2, hpos3, List.length_cons, List.getD_cons_zero, Int.le_refl, ge_iff_le, gt_iff_lt, eq_self_iff_true, beq_self_eq_true, BEq.rfl, go_sem] <;> rfl
    · have hk2 : decide (k = 1) = false := by simp [hk1]
      rw [call_eq pr 3 _ _ Try.f3 fn_3 _ rfl _ ann_3 rfl]
      cases ed <;> simp -implicitDefEqProofs only [h1, h2, h3, h4, h5, h6, h7, h8, h9, h10, hl, hpos, hpos2, hpos3, List.length_cons, List.getD_cons_zero, Int.le_refl, ge_iff_le, gt_iff_lt, eq_self_iff_true, beq_self_eq_true, BEq.rfl, fa hk1, hk2, go_sem] <;> rfl
theorem tr_c (a c : List Int) (k p : Int) (r : List Int) (t T : List (List En)) (b B' : List Ca) (o f ef : Int) (ew eu ed : Bool) (h1 : callOf pr 4 [BY a, BY c] [] = some (B false, [])) (h2 : callOf pr 5 [BY a] [] = some (.agg [.os (.t 257), .os (.t 258), .os (.t 259)], [(257, .arr true false (.int .i64) r), (258, .arr true true (.slice tyE) t), (259, .arr true false tyC b)])) (h3 : callOf pr 6 [BY c, I 0, I 2] [] = some (I k, [])) (h4 : callOf pr 6 [BY c, I 1, I 26] [] = some (I p, [])) (h7 : callOf pr 9 [.agg [L r, LLE t, LC b]] [] = some (B true, [])) (h8 : callOf pr 9 [.agg [L r, LLE T, LC B']] [] = some (B true, [])) (h9 : callOf pr 10 [.agg [L r, LLE T, LC B']] [] = some (B true, [])) (hk : (decide (k = 1) && !ew) = false) (h5 : callOf pr 7 [.agg [L r, LLE t, LC b], I p] [] = some (.tuple [agE (ef, ew, eu, ed, ()), B true], [])) (ho : o = if b.any (pageAt p) = true then 0 else 1) (hf : f = ef) (h10 : callOf pr 7 [.agg [L r, LLE T, LC B'], I p] [] = some (.tuple [agE (ef, ew, true, ed || decide (k = 1), ()), B true], [])) (cf : Int) (cw : Bool) (l : List Ca) (hB : B' = (p, cf, cw, ()) :: l) (hbl : b.length < 100) (hU : UseV r t T b B' k p o f) : callOf pr 3 [BY a, BY c] [] = some (B true, []) := by
  rcases hU with ⟨_, h, _⟩ | hU | ⟨h, _⟩ | hU | hU
  · rw [hB] at h; cases h
  · exact tr_c2 a c k p r t T b B' o f ef ew eu ed h1 h2 h3 h4 h7 h8 h9 hk h5 ho hf h10 cf cw l hB hbl hU
  · rw [hB] at h; cases h
  · exact tr_c4 a c k p r t T b B' o f ef ew eu ed h1 h2 h3 h4 h7 h8 h9 hk h5 ho hf h10 cf cw l hB hbl hU
  · exact tr_c5 a c k p r t T b B' o f ef ew eu ed h1 h2 h3 h4 h7 h8 h9 hk h5 ho hf h10 cf cw l hB hbl hU
theorem law_translated (a c : List Int) (wa : Ty.WF (.slice (.int .u8)) a) (wc : Ty.WF (.slice (.int .u8)) c) : callOf pr 3 [BY a, BY c] [] = some (B true, []) := by
  have h1 := call_long a c
  by_cases l1 : 48 < (a.length : Int)
  · rw [decide_eq_true l1, Bool.true_or] at h1
    rw [call_eq pr 3 _ _ Try.f3 fn_3 _ rfl _ ann_3 rfl]
    simp -implicitDefEqProofs only [h1, go_sem]
  by_cases l2 : 48 < (c.length : Int)
  · rw [decide_eq_true l2, Bool.or_true] at h1
    rw [call_eq pr 3 _ _ Try.f3 fn_3 _ rfl _ ann_3 rfl]
    simp -implicitDefEqProofs only [h1, go_sem]
  rw [decide_eq_false l1, decide_eq_false l2, Bool.or_false] at h1
  obtain ⟨r, t, b, hV, hA, h2⟩ := call_r8s a (okBy_of wa l1)
  obtain ⟨k, hk, h3⟩ := call_at c (okBy_of wc l2) 0 (by omega) 2 (by omega)
  obtain ⟨p, hp, h4⟩ := call_at c (okBy_of wc l2) 1 (by omega) 26 (by omega)
  have ha : addrB p = true := by simp only [addrB, decide_eq_true_eq]; omega
  have hkb : kindB k = true := by simp only [kindB, decide_eq_true_eq]; omega
  have hV2 := hV.use k ha
  have hA2 := hA.use hV k ha
  have h7 := call_ba r t b hV
  rw [agr_iff.2 hA] at h7
  have h8 := call_ba r _ _ hV2
  rw [agr_iff.2 hA2] at h8
  have h9 := call_vs r (useR r t b k p).2.2.1 (useR r t b k p).2.2.2 (by have := hV2.root; omega) (by have := hV2.few; omega) (fun x hx => by rw [hV2.rows x hx]; omega) (by have := hV2.buf; omega)
  rw [← space_eq, vs_iff.2 hV2] at h9
  have h5 := call_wp r t b hV p ha
  have h10 := call_wp r _ _ hV2 p ha
  have hU := use_v k hV ha hkb
  by_cases he : (walkS r t p).1 < 0
  · rw [if_pos he] at h5
    have hq := use_nopage (k := k) hV hA he
    exact tr_a a c k p r t _ b _ _ _ 0 false false false h1 h2 h3 h4 h7 h8 h9 h5 (by rw [hq]) (by rw [hq]) hU
  · rw [if_neg he] at h5
    obtain ⟨⟨ef, ew, eu, ed, ⟨⟩⟩, hE⟩ : ∃ e, walkS r t p = e := ⟨_, rfl⟩
    cases hw : (decide (k = 1) && !(walkS r t p).2.1) with
    | true =>
      obtain ⟨q1, q2⟩ := use_denied hV hA he hw
      rw [hE] at hw h5
      simp only [Bool.and_eq_true, decide_eq_true_eq, Bool.not_eq_true'] at hw
      obtain ⟨hk1, hw2⟩ := hw
      subst hw2
      exact tr_b a c k p r t _ b _ _ _ ef false eu ed h1 h2 h3 h4 h7 h8 h9 hk1 h5 q1 q2 hU
    | false =>
      obtain ⟨q1, q2, q3, ⟨c1, cf, cw, ⟨⟩⟩, l, q4, q5⟩ := use_made hV hA ha he hw
      simp only at q5
      subst q5
      rw [q3, if_neg (by rw [hE] at he ⊢; exact he)] at h10
      rw [hE] at hw h5 h10 q2
      exact tr_c a c k c1 r t _ b _ _ _ ef ew eu ed h1 h2 h3 h4 h7 h8 h9 hw h5 q1 q2 h10 cf cw l q4 (by have := hV.buf; omega) hU
end Go.Proofs.Ytbapbghnageckaa.PI
