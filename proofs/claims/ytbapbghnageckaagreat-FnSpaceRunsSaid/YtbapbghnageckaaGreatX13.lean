/- FnSpaceRuns: its loops. -/
import Derived.Test.YtbapbghnageckaaGreatX12
import Derived.Test.YtbapbghnageckaaGreatU13
namespace Go.Proofs.YtbapbghnageckaaGreat.PI
open Go Go.Q
set_option maxRecDepth 100000
set_option maxHeartbeats 4000000
set_option linter.unusedSimpArgs false
set_option linter.unusedVariables false
attribute [local go_sem] Nat.reduceAdd Nat.reduceSub Nat.reduceMul Nat.reduceMod Nat.reduceLT Nat.reduceLeDiff Nat.reduceEqDiff Nat.reduceBEq Nat.reduceDiv Int.reduceLT Int.reduceLE Int.reduceToNat Int.reduceNeg Int.reduceEq reduceCtorEq
attribute [local go_sem ↓] reduceIte reduceDIte
theorem okBy_of {a : List Int} (hw : Ty.WF (.slice (.int .u8)) a) (hl : ¬ 48 < (a.length : Int)) : okBy a := by
 refine ⟨by omega, fun x hx => ?_⟩
 have h1 := hw.2 x hx
 have h2 : IntKind.u8.min ≤ x ∧ x ≤ IntKind.u8.max := h1
 have h3 : IntKind.u8.min = 0 ∧ IntKind.u8.max = 255 := by decide
 omega
theorem loop_s0 (c : List Int) (hc : okBy c) (r : List Int) (t : List (List En)) (b : List Ca) : ∀ (n j : Nat) (xs : List Acc), j + n = 10 → xs.length = j → xs.all accB = true →
  ∃ ys : List Acc, ys.length = 10 ∧ ys.all accB = true ∧ loopOf pr 5 0 ⟨[(1, BY c), (5, .rp [L r, LLE t, LC b]), (6, .os (.t 2176)), (7, I j)], [(2176, .arr true false tyA xs)]⟩ = some (.exit 0, ⟨[(1, BY c), (5, .rp [L r, LLE t, LC b]), (6, .os (.t 2176)), (7, I 10)], [(2176, .arr true false tyA ys)]⟩)
 | 0, j, xs, h, hl, hx => by
  obtain rfl : j = 10 := by omega
  refine ⟨xs, hl, hx, ?_⟩
  rw [loop_eq pr 5 0 _ Tryz.f5 fn_5 _ rfl _ ann_5 _ rfl]
  simp -implicitDefEqProofs only [Int.cast_ofNat_Int, go_sem]
 | n + 1, j, xs, h, hl, hx => by
  have hlt : ((j : Int) < 10) = True := tr (by omega)
  have hw : IntKind.i64.wrap ((j : Int) + 1) = ((j + 1 : Nat) : Int) := by rw [wrap_i] <;> omega
  have hw2 : IntKind.i64.wrap ((j : Int) + 10) = (j : Int) + 10 := by rw [wrap_i] <;> omega
  obtain ⟨k, hk, h1⟩ := call_at c hc j (by omega) 2 (by omega)
  obtain ⟨p, hp, h2⟩ := call_at c hc ((j : Int) + 10) (by omega) 26 (by omega)
  have hroom : ((xs.length + 1) * 16 ≤ 140737488355328 ∧ xs.length ≤ 9223372036854775806) = True := tr ⟨by omega, by omega⟩
  obtain ⟨ys, k1, k2, k3⟩ := loop_s0 c hc r t b n (j + 1) (xs ++ [(k, p, ())]) (by omega) (by simp [hl]) (by
   rw [List.all_append, hx]
   simp only [List.all_cons, List.all_nil, accB, kindB, addrB, Bool.and_true, Bool.true_and, Bool.and_eq_true, decide_eq_true_eq]
   omega)
  refine ⟨ys, k1, k2, ?_⟩
  rw [loop_eq pr 5 0 _ Tryz.f5 fn_5 _ rfl _ ann_5 _ rfl]
  simp -implicitDefEqProofs only [hlt, hw, hw2, h1, h2, hroom, go_sem]
  exact k3
abbrev S2T (tE : List (List En)) (bE : List Ca) (r : List Int) (id : Nat) (i : Int) : Slots := [(6, .os (.t 2176)), (8, .rp [L r, LLE tE, LC bE]), (9, .os (.t id)), (11, .os (.t 3776)), (15, .op 960 0), (16, .os (.t 5440)), (17, I i)]
abbrev S2H (xs : List Acc) (outs d want : List Int) (id : Nat) (r : List Int) (t : List (List En)) (b : List Ca) : Heap := [(2176, .arr true false tyA xs), (id, .arr true false (.int .i64) outs), (3776, .arr true false (.int .i64) d), (960, .box [L r, LLE t, LC b]), (5440, .arr true false (.int .i64) want)]
def UseV (r : List Int) (t T : List (List En)) (b B' : List Ca) (k p o f : Int) : Prop := (T = [] ∧ B' = [] ∧ callOf pr 11 [.agg [L r, LLE t, LC b], .agg [I k, I p]] [] = some (.tuple [.agg [.os (.t 1408), .nilS, .empS], I o, I f, B true], [(1408, .arr true false (.int .i64) r)])) ∨ (T = [] ∧ callOf pr 11 [.agg [L r, LLE t, LC b], .agg [I k, I p]] [] = some (.tuple [.agg [.os (.t 1408), .nilS, .os (.t 1409)], I o, I f, B true], [(1408, .arr true false (.int .i64) r), (1409, .arr true false tyC B')])) ∨ (B' = [] ∧ callOf pr 11 [.agg [L r, LLE t, LC b], .agg [I k, I p]] [] = some (.tuple [.agg [.os (.t 1408), .os (.t 1409), .empS], I o, I f, B true], [(1408, .arr true false (.int .i64) r), (1409, .arr true true (.slice tyE) T)])) ∨ (callOf pr 11 [.agg [L r, LLE t, LC b], .agg [I k, I p]] [] = some (.tuple [.agg [.os (.t 1408), .os (.t 1409), .os (.t 1600)], I o, I f, B true], [(1408, .arr true false (.int .i64) r), (1409, .arr true true (.slice tyE) T), (1600, .arr true false tyC B')])) ∨ (callOf pr 11 [.agg [L r, LLE t, LC b], .agg [I k, I p]] [] = some (.tuple [.agg [.os (.t 1408), .os (.t 1410), .os (.t 1409)], I o, I f, B true], [(1408, .arr true false (.int .i64) r), (1409, .arr true false tyC B'), (1410, .arr true true (.slice tyE) T)]))
theorem use_v {r : List Int} {t : List (List En)} {b : List Ca} (k : Int) {p : Int} (hV : Vs r t b) (ha : addrB p = true) (hk : kindB k = true) : UseV r t (useR r t b k p).2.2.1 b (useR r t b k p).2.2.2 k p (useR r t b k p).1 (useR r t b k p).2.1 := by
 have h := call_iu r t b k p (by have := hV.root; omega) (by have := hV.few; omega) (fun x hx => by rw [hV.rows x hx]; omega) (by have := hV.buf; omega)
 rw [if_pos (by simp only [useC, accB, vs_iff.2 hV, hk, ha, Bool.and_self])] at h
 exact h
theorem loop_s2_3 (r : List Int) (d : List Int) (tE : List (List En)) (bE : List Ca) : ∀ (suf pre : List Acc) (t : List (List En)) (b : List Ca) (od want : List Int), pre.length + suf.length < 1000 → want.length + suf.length < 1000 → od.length = pre.length → suf.all accB = true → Vs r t b →
  loopOf pr 5 1 ⟨S2T tE bE r 3393 pre.length, S2H (pre ++ suf) (od ++ (runS r suf t b).1) d want 3393 r t b⟩ = some (.exit 2, ⟨S2T tE bE r 3393 ((pre.length + suf.length : Nat) : Int), S2H (pre ++ suf) (od ++ (runS r suf t b).1) d (wantS r suf t b want) 3393 r (runS r suf t b).2.1 (runS r suf t b).2.2⟩)
 | [], pre, t, b, od, want, hb, hwl, ho, hx, hV => by
  rw [loop_eq pr 5 1 _ Tryz.f5 fn_5 _ rfl _ ann_5 _ rfl]
  simp -implicitDefEqProofs only [Int.lt_irrefl, List.append_nil, Nat.add_zero, List.length_nil, runS, wantS, go_sem]
 | (k, p, ()) :: suf, pre, t, b, od, want, hb, hwl, ho, hx, hV => by
  simp only [List.length_cons] at hb hwl ⊢
  simp only [List.all_cons, Bool.and_eq_true, accB] at hx
  have hsuf : suf.all accB = true := by simpa [accB] using hx.2
  have hw : IntKind.i64.wrap ((pre.length : Int) + 1) = ((pre.length + 1 : Nat) : Int) := by rw [wrap_i] <;> omega
  have e1 : (pre ++ [(k, p, ())]).length = pre.length + 1 := by simp
  have e2 : pre.length + 1 + suf.length = pre.length + (suf.length + 1) := by omega
  have hr := call_rh want p (by omega)
  have hroom : ((want.length + 1) * 8 ≤ 140737488355328 ∧ want.length ≤ 9223372036854775806) = True := tr ⟨by omega, by omega⟩
  have hrun : (runS r ((k, p, ()) :: suf) t b).1 = (useR r t b k p).1 :: (runS r suf (useR r t b k p).2.2.1 (useR r t b k p).2.2.2).1 := rfl
  have hrun2 : (runS r ((k, p, ()) :: suf) t b).2 = (runS r suf (useR r t b k p).2.2.1 (useR r t b k p).2.2.2).2 := rfl
  have hwant : wantS r ((k, p, ()) :: suf) t b want = wantS r suf (useR r t b k p).2.2.1 (useR r t b k p).2.2.2 (if (decide ((useR r t b k p).1 ≤ 1) && (decide (k = 1) && !hasL want p)) = true then want ++ [p] else want) := rfl
  have hV2 := hV.use k hx.1.2
  have ih := fun want' hl => loop_s2_3 r d tE bE suf (pre ++ [(k, p, ())]) (useR r t b k p).2.2.1 (useR r t b k p).2.2.2 (od ++ [(useR r t b k p).1]) want' (by simp; omega) hl (by simp [ho]) hsuf hV2
  simp only [app_one, e1, e2, List.append_assoc, List.singleton_append] at ih
  have hU := use_v k hV hx.1.2 hx.1.1
  rw [hrun, hrun2, hwant]
  generalize (runS r suf (useR r t b k p).2.2.1 (useR r t b k p).2.2.2).1 = ro at ih ⊢
  have hg : ∀ z, (od ++ (useR r t b k p).1 :: ro).getD pre.length z = (useR r t b k p).1 := fun z => by rw [← ho]; simp
  have hg2 : ((pre.length : Int) < (((od ++ (useR r t b k p).1 :: ro).length : Nat) : Int)) = True := tr (by simp; omega)
  have hg3 : (pre.length < (od ++ (useR r t b k p).1 :: ro).length) = True := tr (by simp; omega)
  have hone : ∀ want', (∃ q : Bool, (q = (decide ((useR r t b k p).1 ≤ 1) && (decide (k = 1) && !hasL want p))) ∧ want' = if q = true then want ++ [p] else want) → want'.length + suf.length < 1000 := by
   rintro want' ⟨q, _, rfl⟩
   split
   ·rw [List.length_append, List.length_singleton]; omega
   ·omega
  by_cases c1 : (useR r t b k p).1 ≤ 1
  case neg =>
   have hq : (decide ((useR r t b k p).1 ≤ 1) && (decide (k = 1) && !hasL want p)) = false := by rw [decide_eq_false c1, Bool.false_and]
   rw [hq, if_neg (by simp)]
   have ih := ih want (by omega)
   rw [loop_eq pr 5 1 _ Tryz.f5 fn_5 _ rfl _ ann_5 _ rfl]
   rcases hU with ⟨g1, g2, h6⟩ | ⟨g1, h6⟩ | ⟨g1, h6⟩ | h6 | h6
   ·rw [g1, g2] at ih ⊢; rw [g1, g2] at hV2
    simp -implicitDefEqProofs only [getD_app, lt_app, ltn_app, zero_le_cast, Int.toNat_natCast, hw, hg, hg2, hg3, hr, eq_self_iff_true, h6, fa c1, go_sem]
    exact ih
   ·rw [g1] at ih ⊢
    simp -implicitDefEqProofs only [getD_app, lt_app, ltn_app, zero_le_cast, Int.toNat_natCast, hw, hg, hg2, hg3, hr, eq_self_iff_true, h6, fa c1, go_sem]
    exact ih
   ·rw [g1] at ih ⊢
    simp -implicitDefEqProofs only [getD_app, lt_app, ltn_app, zero_le_cast, Int.toNat_natCast, hw, hg, hg2, hg3, hr, eq_self_iff_true, h6, fa c1, go_sem]
    exact ih
   ·simp -implicitDefEqProofs only [getD_app, lt_app, ltn_app, zero_le_cast, Int.toNat_natCast, hw, hg, hg2, hg3, hr, eq_self_iff_true, h6, fa c1, go_sem]
    exact ih
   ·simp -implicitDefEqProofs only [getD_app, lt_app, ltn_app, zero_le_cast, Int.toNat_natCast, hw, hg, hg2, hg3, hr, eq_self_iff_true, h6, fa c1, go_sem]
    exact ih
  case pos =>
   by_cases c2 : k = 1
   case neg =>
    have hq : (decide ((useR r t b k p).1 ≤ 1) && (decide (k = 1) && !hasL want p)) = false := by rw [decide_eq_false c2, Bool.false_and, Bool.and_false]
    rw [hq, if_neg (by simp)]
    have ih := ih want (by omega)
    rw [loop_eq pr 5 1 _ Tryz.f5 fn_5 _ rfl _ ann_5 _ rfl]
    rcases hU with ⟨g1, g2, h6⟩ | ⟨g1, h6⟩ | ⟨g1, h6⟩ | h6 | h6
    ·rw [g1, g2] at ih ⊢
     simp -implicitDefEqProofs only [getD_app, lt_app, ltn_app, zero_le_cast, Int.toNat_natCast, hw, hg, hg2, hg3, hr, eq_self_iff_true, h6, tr c1, fa c2, go_sem]
     exact ih
    ·rw [g1] at ih ⊢
     simp -implicitDefEqProofs only [getD_app, lt_app, ltn_app, zero_le_cast, Int.toNat_natCast, hw, hg, hg2, hg3, hr, eq_self_iff_true, h6, tr c1, fa c2, go_sem]
     exact ih
    ·rw [g1] at ih ⊢
     simp -implicitDefEqProofs only [getD_app, lt_app, ltn_app, zero_le_cast, Int.toNat_natCast, hw, hg, hg2, hg3, hr, eq_self_iff_true, h6, tr c1, fa c2, go_sem]
     exact ih
    ·simp -implicitDefEqProofs only [getD_app, lt_app, ltn_app, zero_le_cast, Int.toNat_natCast, hw, hg, hg2, hg3, hr, eq_self_iff_true, h6, tr c1, fa c2, go_sem]
     exact ih
    ·simp -implicitDefEqProofs only [getD_app, lt_app, ltn_app, zero_le_cast, Int.toNat_natCast, hw, hg, hg2, hg3, hr, eq_self_iff_true, h6, tr c1, fa c2, go_sem]
     exact ih
   case pos =>
    cases c3 : hasL want p with
    | true =>
     rw [c3] at hr
     have hq : (decide ((useR r t b k p).1 ≤ 1) && (decide (k = 1) && !true)) = false := by simp
     rw [hq, if_neg (by simp)]
     have ih := ih want (by omega)
     rw [loop_eq pr 5 1 _ Tryz.f5 fn_5 _ rfl _ ann_5 _ rfl]
     rcases hU with ⟨g1, g2, h6⟩ | ⟨g1, h6⟩ | ⟨g1, h6⟩ | h6 | h6
     ·rw [g1, g2] at ih ⊢
      simp -implicitDefEqProofs only [getD_app, lt_app, ltn_app, zero_le_cast, Int.toNat_natCast, hw, hg, hg2, hg3, hr, eq_self_iff_true, h6, tr c1, tr c2, go_sem]
      exact ih
     ·rw [g1] at ih ⊢
      simp -implicitDefEqProofs only [getD_app, lt_app, ltn_app, zero_le_cast, Int.toNat_natCast, hw, hg, hg2, hg3, hr, eq_self_iff_true, h6, tr c1, tr c2, go_sem]
      exact ih
     ·rw [g1] at ih ⊢
      simp -implicitDefEqProofs only [getD_app, lt_app, ltn_app, zero_le_cast, Int.toNat_natCast, hw, hg, hg2, hg3, hr, eq_self_iff_true, h6, tr c1, tr c2, go_sem]
      exact ih
     ·simp -implicitDefEqProofs only [getD_app, lt_app, ltn_app, zero_le_cast, Int.toNat_natCast, hw, hg, hg2, hg3, hr, eq_self_iff_true, h6, tr c1, tr c2, go_sem]
      exact ih
     ·simp -implicitDefEqProofs only [getD_app, lt_app, ltn_app, zero_le_cast, Int.toNat_natCast, hw, hg, hg2, hg3, hr, eq_self_iff_true, h6, tr c1, tr c2, go_sem]
      exact ih
    | false =>
     rw [c3] at hr
     have hq : (decide ((useR r t b k p).1 ≤ 1) && (decide (k = 1) && !false)) = true := by rw [decide_eq_true c1, decide_eq_true c2]; rfl
     rw [hq, if_pos rfl]
     have ih := ih (want ++ [p]) (by rw [List.length_append, List.length_singleton]; omega)
     rw [loop_eq pr 5 1 _ Tryz.f5 fn_5 _ rfl _ ann_5 _ rfl]
     rcases hU with ⟨g1, g2, h6⟩ | ⟨g1, h6⟩ | ⟨g1, h6⟩ | h6 | h6
     ·rw [g1, g2] at ih ⊢
      simp -implicitDefEqProofs only [getD_app, lt_app, ltn_app, zero_le_cast, Int.toNat_natCast, hw, hg, hg2, hg3, hr, eq_self_iff_true, h6, tr c1, tr c2, hroom, go_sem]
      exact ih
     ·rw [g1] at ih ⊢
      simp -implicitDefEqProofs only [getD_app, lt_app, ltn_app, zero_le_cast, Int.toNat_natCast, hw, hg, hg2, hg3, hr, eq_self_iff_true, h6, tr c1, tr c2, hroom, go_sem]
      exact ih
     ·rw [g1] at ih ⊢
      simp -implicitDefEqProofs only [getD_app, lt_app, ltn_app, zero_le_cast, Int.toNat_natCast, hw, hg, hg2, hg3, hr, eq_self_iff_true, h6, tr c1, tr c2, hroom, go_sem]
      exact ih
     ·simp -implicitDefEqProofs only [getD_app, lt_app, ltn_app, zero_le_cast, Int.toNat_natCast, hw, hg, hg2, hg3, hr, eq_self_iff_true, h6, tr c1, tr c2, hroom, go_sem]
      exact ih
     ·simp -implicitDefEqProofs only [getD_app, lt_app, ltn_app, zero_le_cast, Int.toNat_natCast, hw, hg, hg2, hg3, hr, eq_self_iff_true, h6, tr c1, tr c2, hroom, go_sem]
      exact ih
theorem loop_s2_4 (r : List Int) (d : List Int) (tE : List (List En)) (bE : List Ca) : ∀ (suf pre : List Acc) (t : List (List En)) (b : List Ca) (od want : List Int), pre.length + suf.length < 1000 → want.length + suf.length < 1000 → od.length = pre.length → suf.all accB = true → Vs r t b →
  loopOf pr 5 1 ⟨S2T tE bE r 3394 pre.length, S2H (pre ++ suf) (od ++ (runS r suf t b).1) d want 3394 r t b⟩ = some (.exit 2, ⟨S2T tE bE r 3394 ((pre.length + suf.length : Nat) : Int), S2H (pre ++ suf) (od ++ (runS r suf t b).1) d (wantS r suf t b want) 3394 r (runS r suf t b).2.1 (runS r suf t b).2.2⟩)
 | [], pre, t, b, od, want, hb, hwl, ho, hx, hV => by
  rw [loop_eq pr 5 1 _ Tryz.f5 fn_5 _ rfl _ ann_5 _ rfl]
  simp -implicitDefEqProofs only [Int.lt_irrefl, List.append_nil, Nat.add_zero, List.length_nil, runS, wantS, go_sem]
 | (k, p, ()) :: suf, pre, t, b, od, want, hb, hwl, ho, hx, hV => by
  simp only [List.length_cons] at hb hwl ⊢
  simp only [List.all_cons, Bool.and_eq_true, accB] at hx
  have hsuf : suf.all accB = true := by simpa [accB] using hx.2
  have hw : IntKind.i64.wrap ((pre.length : Int) + 1) = ((pre.length + 1 : Nat) : Int) := by rw [wrap_i] <;> omega
  have e1 : (pre ++ [(k, p, ())]).length = pre.length + 1 := by simp
  have e2 : pre.length + 1 + suf.length = pre.length + (suf.length + 1) := by omega
  have hr := call_rh want p (by omega)
  have hroom : ((want.length + 1) * 8 ≤ 140737488355328 ∧ want.length ≤ 9223372036854775806) = True := tr ⟨by omega, by omega⟩
  have hrun : (runS r ((k, p, ()) :: suf) t b).1 = (useR r t b k p).1 :: (runS r suf (useR r t b k p).2.2.1 (useR r t b k p).2.2.2).1 := rfl
  have hrun2 : (runS r ((k, p, ()) :: suf) t b).2 = (runS r suf (useR r t b k p).2.2.1 (useR r t b k p).2.2.2).2 := rfl
  have hwant : wantS r ((k, p, ()) :: suf) t b want = wantS r suf (useR r t b k p).2.2.1 (useR r t b k p).2.2.2 (if (decide ((useR r t b k p).1 ≤ 1) && (decide (k = 1) && !hasL want p)) = true then want ++ [p] else want) := rfl
  have hV2 := hV.use k hx.1.2
  have ih := fun want' hl => loop_s2_4 r d tE bE suf (pre ++ [(k, p, ())]) (useR r t b k p).2.2.1 (useR r t b k p).2.2.2 (od ++ [(useR r t b k p).1]) want' (by simp; omega) hl (by simp [ho]) hsuf hV2
  simp only [app_one, e1, e2, List.append_assoc, List.singleton_append] at ih
  have hU := use_v k hV hx.1.2 hx.1.1
  rw [hrun, hrun2, hwant]
  generalize (runS r suf (useR r t b k p).2.2.1 (useR r t b k p).2.2.2).1 = ro at ih ⊢
  have hg : ∀ z, (od ++ (useR r t b k p).1 :: ro).getD pre.length z = (useR r t b k p).1 := fun z => by rw [← ho]; simp
  have hg2 : ((pre.length : Int) < (((od ++ (useR r t b k p).1 :: ro).length : Nat) : Int)) = True := tr (by simp; omega)
  have hg3 : (pre.length < (od ++ (useR r t b k p).1 :: ro).length) = True := tr (by simp; omega)
  have hone : ∀ want', (∃ q : Bool, (q = (decide ((useR r t b k p).1 ≤ 1) && (decide (k = 1) && !hasL want p))) ∧ want' = if q = true then want ++ [p] else want) → want'.length + suf.length < 1000 := by
   rintro want' ⟨q, _, rfl⟩
   split
   ·rw [List.length_append, List.length_singleton]; omega
   ·omega
  by_cases c1 : (useR r t b k p).1 ≤ 1
  case neg =>
   have hq : (decide ((useR r t b k p).1 ≤ 1) && (decide (k = 1) && !hasL want p)) = false := by rw [decide_eq_false c1, Bool.false_and]
   rw [hq, if_neg (by simp)]
   have ih := ih want (by omega)
   rw [loop_eq pr 5 1 _ Tryz.f5 fn_5 _ rfl _ ann_5 _ rfl]
   rcases hU with ⟨g1, g2, h6⟩ | ⟨g1, h6⟩ | ⟨g1, h6⟩ | h6 | h6
   ·rw [g1, g2] at ih ⊢; rw [g1, g2] at hV2
    simp -implicitDefEqProofs only [getD_app, lt_app, ltn_app, zero_le_cast, Int.toNat_natCast, hw, hg, hg2, hg3, hr, eq_self_iff_true, h6, fa c1, go_sem]
    exact ih
   ·rw [g1] at ih ⊢
    simp -implicitDefEqProofs only [getD_app, lt_app, ltn_app, zero_le_cast, Int.toNat_natCast, hw, hg, hg2, hg3, hr, eq_self_iff_true, h6, fa c1, go_sem]
    exact ih
   ·rw [g1] at ih ⊢
    simp -implicitDefEqProofs only [getD_app, lt_app, ltn_app, zero_le_cast, Int.toNat_natCast, hw, hg, hg2, hg3, hr, eq_self_iff_true, h6, fa c1, go_sem]
    exact ih
   ·simp -implicitDefEqProofs only [getD_app, lt_app, ltn_app, zero_le_cast, Int.toNat_natCast, hw, hg, hg2, hg3, hr, eq_self_iff_true, h6, fa c1, go_sem]
    exact ih
   ·simp -implicitDefEqProofs only [getD_app, lt_app, ltn_app, zero_le_cast, Int.toNat_natCast, hw, hg, hg2, hg3, hr, eq_self_iff_true, h6, fa c1, go_sem]
    exact ih
  case pos =>
   by_cases c2 : k = 1
   case neg =>
    have hq : (decide ((useR r t b k p).1 ≤ 1) && (decide (k = 1) && !hasL want p)) = false := by rw [decide_eq_false c2, Bool.false_and, Bool.and_false]
    rw [hq, if_neg (by simp)]
    have ih := ih want (by omega)
    rw [loop_eq pr 5 1 _ Tryz.f5 fn_5 _ rfl _ ann_5 _ rfl]
    rcases hU with ⟨g1, g2, h6⟩ | ⟨g1, h6⟩ | ⟨g1, h6⟩ | h6 | h6
    ·rw [g1, g2] at ih ⊢
     simp -implicitDefEqProofs only [getD_app, lt_app, ltn_app, zero_le_cast, Int.toNat_natCast, hw, hg, hg2, hg3, hr, eq_self_iff_true, h6, tr c1, fa c2, go_sem]
     exact ih
    ·rw [g1] at ih ⊢
     simp -implicitDefEqProofs only [getD_app, lt_app, ltn_app, zero_le_cast, Int.toNat_natCast, hw, hg, hg2, hg3, hr, eq_self_iff_true, h6, tr c1, fa c2, go_sem]
     exact ih
    ·rw [g1] at ih ⊢
     simp -implicitDefEqProofs only [getD_app, lt_app, ltn_app, zero_le_cast, Int.toNat_natCast, hw, hg, hg2, hg3, hr, eq_self_iff_true, h6, tr c1, fa c2, go_sem]
     exact ih
    ·simp -implicitDefEqProofs only [getD_app, lt_app, ltn_app, zero_le_cast, Int.toNat_natCast, hw, hg, hg2, hg3, hr, eq_self_iff_true, h6, tr c1, fa c2, go_sem]
     exact ih
    ·simp -implicitDefEqProofs only [getD_app, lt_app, ltn_app, zero_le_cast, Int.toNat_natCast, hw, hg, hg2, hg3, hr, eq_self_iff_true, h6, tr c1, fa c2, go_sem]
     exact ih
   case pos =>
    cases c3 : hasL want p with
    | true =>
     rw [c3] at hr
     have hq : (decide ((useR r t b k p).1 ≤ 1) && (decide (k = 1) && !true)) = false := by simp
     rw [hq, if_neg (by simp)]
     have ih := ih want (by omega)
     rw [loop_eq pr 5 1 _ Tryz.f5 fn_5 _ rfl _ ann_5 _ rfl]
     rcases hU with ⟨g1, g2, h6⟩ | ⟨g1, h6⟩ | ⟨g1, h6⟩ | h6 | h6
     ·rw [g1, g2] at ih ⊢
      simp -implicitDefEqProofs only [getD_app, lt_app, ltn_app, zero_le_cast, Int.toNat_natCast, hw, hg, hg2, hg3, hr, eq_self_iff_true, h6, tr c1, tr c2, go_sem]
      exact ih
     ·rw [g1] at ih ⊢
      simp -implicitDefEqProofs only [getD_app, lt_app, ltn_app, zero_le_cast, Int.toNat_natCast, hw, hg, hg2, hg3, hr, eq_self_iff_true, h6, tr c1, tr c2, go_sem]
      exact ih
     ·rw [g1] at ih ⊢
      simp -implicitDefEqProofs only [getD_app, lt_app, ltn_app, zero_le_cast, Int.toNat_natCast, hw, hg, hg2, hg3, hr, eq_self_iff_true, h6, tr c1, tr c2, go_sem]
      exact ih
     ·simp -implicitDefEqProofs only [getD_app, lt_app, ltn_app, zero_le_cast, Int.toNat_natCast, hw, hg, hg2, hg3, hr, eq_self_iff_true, h6, tr c1, tr c2, go_sem]
      exact ih
     ·simp -implicitDefEqProofs only [getD_app, lt_app, ltn_app, zero_le_cast, Int.toNat_natCast, hw, hg, hg2, hg3, hr, eq_self_iff_true, h6, tr c1, tr c2, go_sem]
      exact ih
    | false =>
     rw [c3] at hr
     have hq : (decide ((useR r t b k p).1 ≤ 1) && (decide (k = 1) && !false)) = true := by rw [decide_eq_true c1, decide_eq_true c2]; rfl
     rw [hq, if_pos rfl]
     have ih := ih (want ++ [p]) (by rw [List.length_append, List.length_singleton]; omega)
     rw [loop_eq pr 5 1 _ Tryz.f5 fn_5 _ rfl _ ann_5 _ rfl]
     rcases hU with ⟨g1, g2, h6⟩ | ⟨g1, h6⟩ | ⟨g1, h6⟩ | h6 | h6
     ·rw [g1, g2] at ih ⊢
      simp -implicitDefEqProofs only [getD_app, lt_app, ltn_app, zero_le_cast, Int.toNat_natCast, hw, hg, hg2, hg3, hr, eq_self_iff_true, h6, tr c1, tr c2, hroom, go_sem]
      exact ih
     ·rw [g1] at ih ⊢
      simp -implicitDefEqProofs only [getD_app, lt_app, ltn_app, zero_le_cast, Int.toNat_natCast, hw, hg, hg2, hg3, hr, eq_self_iff_true, h6, tr c1, tr c2, hroom, go_sem]
      exact ih
     ·rw [g1] at ih ⊢
      simp -implicitDefEqProofs only [getD_app, lt_app, ltn_app, zero_le_cast, Int.toNat_natCast, hw, hg, hg2, hg3, hr, eq_self_iff_true, h6, tr c1, tr c2, hroom, go_sem]
      exact ih
     ·simp -implicitDefEqProofs only [getD_app, lt_app, ltn_app, zero_le_cast, Int.toNat_natCast, hw, hg, hg2, hg3, hr, eq_self_iff_true, h6, tr c1, tr c2, hroom, go_sem]
      exact ih
     ·simp -implicitDefEqProofs only [getD_app, lt_app, ltn_app, zero_le_cast, Int.toNat_natCast, hw, hg, hg2, hg3, hr, eq_self_iff_true, h6, tr c1, tr c2, hroom, go_sem]
      exact ih
end Go.Proofs.YtbapbghnageckaaGreat.PI
